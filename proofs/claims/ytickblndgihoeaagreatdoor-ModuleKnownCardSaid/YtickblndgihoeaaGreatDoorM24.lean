/- Calls' results weakened; literals of rows as frozen rows. -/
import Derived.Test.YtickblndgihoeaaGreatDoorM23
import Derived.Test.YtickblndgihoeaaGreatDoorM5
namespace Go.Sp
open Go.RowKit
section
variable {P : Program} {N : Nat} {rd : Option Nat} {E : Env} {D : List Deferred} {L : List HP} {Q : Post}
theorem JO_weak {o : Oper} {next next' : Env → List Deferred → List HP → Prop} (h : JO P N rd o E D L next Q) (hc : ∀ E' D' L', next E' D' L' → ∃ L'', Ent L' L'' ∧ next' E' D' L'') : JO P N rd o E D L next' Q := fun F a w hr hs nx hnx =>
  h F a w hr hs nx (fun _ _ _ _ _ hn hr' hs' => let ⟨_, he, hn'⟩ := hc _ _ _ hn; hnx _ _ _ _ _ hn' hr' (he F _ hs'))
variable {d : Option Nat} {ty : TypeId} {pos : String} {after : Array Edge} {g : Option (Nat × Bool)} {next : Env → List Deferred → List HP → Prop}
theorem ent_own {r e sz n cap : Nat} {cs : List Value} {L : List HP} (h0 : cs.length = n * sz) (h1 : n ≤ cap) (h2 : cap ≤ maxLen) (h3 : cs.length = cap * sz) : Ent (pt r (.cells cs.toArray e (0, 0)) :: L) (OwnS e sz (.slice (some ⟨r, 0, none⟩) n cap) n cs :: L) := fun F w hs => by
  have h4 : Sat w (pt r (.cells (cs ++ []).toArray e (0, 0)) :: F :: L) := by rw [List.append_nil]; exact hs.swap
  exact (Sat.own_block h4 h0 h1 h2 (by simpa using h3)).swap
theorem ent_freeze {e sz n : Nat} {v : Value} {cs : List Value} {L : List HP} : Ent (OwnS e sz v n cs :: L) (Vw sz v n cs :: L) := fun _ _ hs => hs.swap.own_freeze.swap
/-- A literal row of ints, frozen. -/
theorem JO_buildV (l : List Int) {t e : TypeId} [TU P t (.slice e)] {z : Value} {k : Nat} [TI P e z 1 k] {len : Nat} {parts : Array (Nat × Operand)} {xs : List Operand} {vs cs : List Value}
    (hp : inOrder parts.toList 0 = some xs) (hx : evs E xs = some vs) [hc : Cat vs 1 cs] (hl : vs.length = len) (he : cs = ints l) (hlen : len = l.length) (hb : len * 1 ≤ 16777216) (hd : dok N d = true)
    (h : ∀ r, next (put E d (.slice (some ⟨r, 0, none⟩) l.length l.length)) D (Vw 1 (.slice (some ⟨r, 0, none⟩) l.length l.length) l.length (ints l) :: L)) :
    JO P N rd ⟨d, .buildSlice t len parts, ty, pos, after, g⟩ E D L next Q := by
  subst hlen
  refine JO_weak (next := fun E' D' L' => ∃ r, E' = put E d (.slice (some ⟨r, 0, none⟩) l.length l.length) ∧ D' = D ∧ L' = pt r (.cells cs.toArray e (0, 0)) :: L) (JO_buildSlice (n := 1) hp hx hl hb hd (fun r => ⟨r, rfl, rfl, rfl⟩)) ?_
  rintro E' D' L' ⟨r, rfl, rfl, rfl⟩
  refine ⟨_, ?_, h r⟩
  rw [he]
  exact (ent_own (sz := 1) (by simp [ints]) (Nat.le_refl _) (Nat.le_trans (show l.length ≤ 16777216 by omega) (by decide)) (by simp [ints])).trans ent_freeze
end
end Go.Sp
