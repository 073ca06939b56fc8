/- Rows of rows; ranges over functions inside loops. -/
import Derived.Test.YtejhdhmopiahhaaDoorSp9
namespace Go.Sp
open Go.RowKit

theorem up_vw (sz : Nat) (v : Value) (n : Nat) (cs : List Value) : Up (Vw sz v n cs) := by
  rintro h h' hl ⟨h1, h0, p, cap, h2, h3⟩
  refine ⟨h1, h0, p, cap, h2, h3.imp id ?_⟩
  rintro ⟨b, o, all, e, fz, h4, h5, h6⟩
  exact ⟨b, o, all, e, fz, h4, hl _ _ h5, h6⟩
theorem star_two {A B : HP} (ha : Up A) (hb : Up B) {k : Part} (h : Star [A, B] k) : A k ∧ B k := by
  obtain ⟨h1, h2, c, l1, l2, pa, h3, h4, c2, l3, l4, pb, _⟩ := h
  exact ⟨ha _ _ l1 pa, hb _ _ (l3.trans l2) pb⟩
/-- Values that are slices of numbers, frozen. -/
def Lists (lvs : List Value) (ls : List (List Int)) : HP := fun h => lvs.length = ls.length ∧ ∀ (i : Nat) (lv : Value) (l : List Int), lvs[i]? = some lv → ls[i]? = some l → (∃ p cap, lv = .slice p l.length cap) ∧ Vw 1 lv l.length (ints l) h
theorem pers_lists (lvs : List Value) (ls : List (List Int)) : Pers (Lists lvs ls) := fun _ ⟨h1, h2⟩ => ⟨h1, fun i lv l a b => ⟨(h2 i lv l a b).1, pers_vw _ _ _ _ _ (h2 i lv l a b).2⟩⟩
theorem up_lists (lvs : List Value) (ls : List (List Int)) : Up (Lists lvs ls) := fun _ _ hl ⟨h1, h2⟩ => ⟨h1, fun i lv l a b => ⟨(h2 i lv l a b).1, up_vw _ _ _ _ _ _ hl (h2 i lv l a b).2⟩⟩
instance (lvs : List Value) (ls : List (List Int)) : PersA (Lists lvs ls) := ⟨pers_lists lvs ls⟩
theorem lists_nil (h : Part) : Lists [] [] h := ⟨rfl, fun i lv l a => by simp at a⟩
/-- A slice of such. -/
def VLists (v : Value) (ls : List (List Int)) : HP := fun h => ∃ lvs : List Value, Vw 1 v ls.length lvs h ∧ Lists lvs ls h
theorem pers_vlists (v : Value) (ls : List (List Int)) : Pers (VLists v ls) := fun _ ⟨lvs, h1, h2⟩ => ⟨lvs, pers_vw _ _ _ _ _ h1, pers_lists _ _ _ h2⟩
instance (v : Value) (ls : List (List Int)) : PersA (VLists v ls) := ⟨pers_vlists v ls⟩
theorem Sat.lists_push {w : World} {lvs : List Value} {ls : List (List Int)} {p : Option Addr} {cap : Nat} {l : List Int} {L : List HP} (h : Sat w (Lists lvs ls :: Vw 1 (.slice p l.length cap) l.length (ints l) :: L)) : Sat w (Lists (lvs ++ [.slice p l.length cap]) (ls ++ [l]) :: L) := by
  refine Sat.join (M := [Lists lvs ls, Vw 1 (.slice p l.length cap) l.length (ints l)]) h fun k hk => ?_
  obtain ⟨h1, h2⟩ := star_two (up_lists _ _) (up_vw _ _ _ _) hk
  refine ⟨by simp [h1.1], fun i lv m a b => ?_⟩
  by_cases hi : i < lvs.length
  · rw [List.getElem?_append_left hi] at a
    rw [List.getElem?_append_left (by rw [← h1.1]; exact hi)] at b
    exact h1.2 i lv m a b
  · have hi2 : i = lvs.length := by
      have := (List.getElem?_eq_some_iff.1 a).1
      simp at this; omega
    subst hi2
    rw [List.getElem?_append_right (Nat.le_refl _)] at a
    rw [h1.1, List.getElem?_append_right (Nat.le_refl _)] at b
    simp at a b
    subst a b
    exact ⟨⟨_, _, rfl⟩, h2⟩
theorem Sat.vlists {w : World} {v : Value} {lvs : List Value} {ls : List (List Int)} {L : List HP} (h : Sat w (Vw 1 v ls.length lvs :: Lists lvs ls :: L)) : Sat w (VLists v ls :: L) :=
  Sat.join (M := [Vw 1 v ls.length lvs, Lists lvs ls]) h fun _ hk => ⟨lvs, star_two (up_vw _ _ _ _) (up_lists _ _) hk⟩

theorem Ent.vlists {v : Value} {lvs : List Value} {ls : List (List Int)} {n : Nat} {L : List HP} (hn : n = ls.length) : Ent (Vw 1 v n lvs :: Lists lvs ls :: L) (VLists v ls :: L) := fun F w hs => by
  subst hn
  exact (Sat.vlists (hs.perm ((List.Perm.swap _ _ _).trans (List.Perm.cons _ (List.Perm.swap _ _ _))))).swap
theorem Ent.lists_push {lvs : List Value} {ls : List (List Int)} {p : Option Addr} {cap : Nat} {l : List Int} {L : List HP} {cs : List Value} (hc : cs = ints l) : Ent (Lists lvs ls :: Vw 1 (.slice p l.length cap) l.length cs :: L) (Lists (lvs ++ [.slice p l.length cap]) (ls ++ [l]) :: L) := fun F w hs => by
  subst hc
  exact (Sat.lists_push (hs.perm ((List.Perm.swap _ _ _).trans (List.Perm.cons _ (List.Perm.swap _ _ _))))).swap
theorem lists_at {lvs : List Value} {ls : List (List Int)} {i : Nat} {l : List Int} (hl : ls[i]? = some l) (k : Part) (h : Lists lvs ls k) : ∃ x : { q : Option Addr × Nat // lvs[i]? = some (.slice q.1 l.length q.2) }, Star [Vw 1 (.slice x.1.1 l.length x.1.2) l.length (ints l)] k := by
  have hi := (List.getElem?_eq_some_iff.1 hl).1
  obtain ⟨lv, hlv⟩ : ∃ lv, lvs[i]? = some lv := ⟨_, List.getElem?_eq_getElem (by rw [h.1]; exact hi)⟩
  obtain ⟨⟨p, cap, rfl⟩, hv⟩ := h.2 i lv l hlv hl
  refine ⟨⟨(p, cap), hlv⟩, star_pers ?_⟩
  intro A hA
  simp only [List.mem_cons, List.not_mem_nil, or_false] at hA
  subst hA
  exact ⟨pers_vw _ _ _ _, hv⟩
theorem vlists_open {v : Value} {ls : List (List Int)} (k : Part) (h : VLists v ls k) : ∃ lvs : List Value, Star [Vw 1 v ls.length lvs, Lists lvs ls] k := by
  obtain ⟨lvs, h1, h2⟩ := h
  refine ⟨lvs, star_pers ?_⟩
  intro A hA
  simp only [List.mem_cons, List.not_mem_nil, or_false] at hA
  rcases hA with rfl | rfl
  · exact ⟨pers_vw _ _ _ _, h1⟩
  · exact ⟨pers_lists _ _, h2⟩
theorem Ent.dup (A : HP) {L M : List HP} [hp : PersA A] [t : Tk A L M] : Ent L (A :: L) := fun F w hs => by
  have h1 := (hs.perm (t.h.cons F)).swap.dup hp.h
  have h2 : Sat w (A :: F :: L) := h1.perm (List.Perm.cons A ((List.Perm.swap F A M).trans (t.h.symm.cons F)))
  exact h2.swap

def bools (l : List Bool) : List Value := l.map Value.bool
theorem bools_get {l : List Bool} {i : Nat} {b : Bool} (h : l[i]? = some b) : (bools l)[i]? = some (.bool b) := by simp [bools, h]
theorem bools_set (l : List Bool) (i : Nat) (b : Bool) : (bools l).set i (.bool b) = bools (l.set i b) := by simp [bools, List.map_set]
theorem bools_make (n : Nat) : List.replicate n (Value.bool false) = bools (List.replicate n false) := by simp [bools]
theorem length_bools (l : List Bool) : (bools l).length = l.length := by simp [bools]
/-- What the statements that have run through left, one each. -/
def Marks (rs : List Nat) : HP := Star (rs.map fun r => pt r (.deferred (some [])))
theorem Ent.mark {r : Nat} {rs : List Nat} {L : List HP} : Ent (pt r (.deferred (some [])) :: Marks rs :: L) (Marks (r :: rs) :: L) := fun F w hs => by
  have h1 : Sat w (pt r (.deferred (some [])) :: Marks rs :: F :: L) := hs.perm ((List.Perm.swap _ _ _).trans (List.Perm.cons _ (List.Perm.swap _ _ _)))
  have h2 : Sat w (Marks (r :: rs) :: F :: L) := Sat.join (M := [pt r (.deferred (some [])), Marks rs]) h1 fun k hk => by
    obtain ⟨a, b, c, l1, l2, pa, pb⟩ := hk
    obtain ⟨a2, b2, c2, l3, l4, pa2, _⟩ := pb
    exact ⟨a, a2, c.le (Le.refl _) l3, l1, l3.trans l2, pa, pa2⟩
  exact h2.swap
theorem Ent.marks0 {L : List HP} : Ent L (Marks [] :: L) := .cons fun _ _ hs => hs.add trivial

section
variable {P : Program} {N : Nat} {rd : Option Nat} {E : Env} {D : List Deferred} {L : List HP} {Q : Post} {next : Env → List Deferred → List HP → Prop}
def bodyQMs (P : Program) (N : Nat) (fn : Func) (R : Ending → List HP → Prop) : Post
  | .normal, E, D, L | .ret, E, D, L => ∃ rs : List Nat, D = rs.map collected ∧ ∃ L0, Ent L (Marks rs :: L0) ∧ ∃ v, Res P N fn E L0 v ∧ ∃ L', Ent L0 L' ∧ R (.returned v) L'
  | _, _, _, _ => False
theorem marksQ_of {K : List HP → Prop} {L : List HP} (h : K L) : ∀ rs : List Nat, MarksQ (rs.map collected) (rs.map (fun r => pt r (.deferred (some []))) ++ L) K
  | [] => h
  | _ :: rs => ⟨_, _, rfl, List.Perm.refl _, marksQ_of h rs⟩
theorem fn_retMs {f : FuncId} {fn : Func} {c : Code} {vs : List Value} {R : Ending → List HP → Prop} (hf : P.funcs[f]? = some fn) (hb : fn.body = some c) (hn : fn.ntmps = N) (hN : vs.length ≤ N)
    (h : J P N none c (argEnv 0 vs) [] L (bodyQMs P N fn R)) : Ct P f vs.toArray L R := by
  have key : ∀ (F : HP) (L' : List HP) (D : List Deferred) (a : Act) (w' : World) (E : Env), Rep N E a.defers a → a.defers = D → Sat w' (F :: L') →
      (∃ rs : List Nat, D = rs.map collected ∧ ∃ L0, Ent L' (Marks rs :: L0) ∧ ∃ v, Res P N fn E L0 v ∧ ∃ L', Ent L0 L' ∧ R (.returned v) L') →
      LeavesInM Fence.wide 0 P fn a.tmps (fun e w' => e ≠ .outgrown ∧ ∃ L', R e L' ∧ Sat w' (F :: L')) a.defers .returning w' := by
    rintro F L' D a w' E hr hd s ⟨rs, rfl, L0, he, v, hv, L2, he2, hR⟩
    rw [hd] at hr ⊢
    have s1 := (he F w' s).swap
    have s2 : Sat w' (F :: (rs.map (fun r => pt r (.deferred (some []))) ++ L0)) := by
      have := Sat.fold.2 s1
      exact this.perm List.perm_middle
    refine leaves_marks (R := R) (F := F) _ _ a w' E ?_ s2 (marksQ_of ⟨v, hv, L2, he2, hR⟩ rs)
    rw [hd]; exact hr
  intro F w hs
  refine (callsIn_wide (n := 0)).1 (callsIn_of_wp_marks hf hb trivial ?_ rfl)
  have h1 := h F _ w (rep_args vs hN) hs
  rw [hn]
  refine wpIn_mono h1 ?_
  rintro e a w' ⟨E, D, L', q, r, s⟩
  cases e with
  | normal => exact key F L' D a w' E ⟨r.1, rfl, r.2.2⟩ r.2.1 s q
  | ret => exact key F L' D a w' E ⟨r.1, rfl, r.2.2⟩ r.2.1 s q
  | panic ch => exact q.elim
  | exit id => exact q.elim
  | goto l => exact q.elim
  | outgrown => exact q.elim
theorem retMs_cell {α : Type} {φ : α → Prop} {v : α → Value} {L0 : α → List HP} {rs : List Nat} {M : List HP} {fn : Func} {a t n : Nat} [TA P t n] {b : Nat} {cs : List Value} {bt : TypeId} {fz : Nat × Nat} (hr : fn.results = #[.cell a t]) (hv : Env.get E a = some (.pointer (some ⟨b, 0, none⟩)))
    (hD : D = rs.map collected) (hm : Ent L (Marks rs :: M)) [hb : HB M b (.cells cs.toArray bt fz)] (hn : cs.length = n) (x : α) (hφ : φ x) (hu : .agg cs.toArray = v x) (he : Ent M (L0 x)) :
    bodyQMs P N fn (RetE φ v L0) .ret E D L := ⟨rs, hD, M, hm, _, res_cell (b := b) (cs := cs) (bt := bt) (fz := fz) hr hv hn, _, he, x, hφ, by rw [hu], rfl⟩
end
end Go.Sp
