/- Layer 10: the operations that lay BlocksKnown's table, whichever order -/
import Derived.Test.YtemanjljjlpbgaaW3
import Derived.Test.YtemanjljjlpbgaaSp21
namespace Go.Proofs.Ytemanjljjlpbgaa
open Go Go.Sp
/-- lv: a list of its own. -/
def RowV (L : List HP) (lv : Value) (l : List Int) : Prop := (lv = .slice none 0 0 ∧ l = []) ∨ ∃ p c, lv = .slice p l.length c ∧ HasP L (Vw 1 (.slice p l.length c) l.length (ints l))
theorem RowV.ext {L : List HP} {lv : Value} {l : List Int} (h : RowV L lv l) (K : List HP) : RowV (K ++ L) lv l := h.imp id fun ⟨p, c, e, hp⟩ => ⟨p, c, e, hp.ext K⟩
inductive SK where
  | val (v : Value)
  | row (l : List Int)
  | insn (x : Insn)
  | code (xs : List Insn)
  | entry (xs : List Insn) (at_ e : Int)
  | table
def SK.ok : SK → List HP → Value → Prop
  | .val u, _, v => v = u
  | .row l, L, v => ∃ p c, v = .slice p l.length c ∧ HasP L (Vw 1 (.slice p l.length c) l.length (ints l))
  | .insn x, L, v => ∃ lv, v = .agg (insnV x lv).toArray ∧ RowV L lv x.l
  | .code xs, L, v => ∃ p c, v = .slice p xs.length c ∧ HasP L (VCode (.slice p xs.length c) xs)
  | .entry xs at_ e, L, v => ∃ p c, v = .agg (entryCells ⟨p, c, xs, at_, e⟩).toArray ∧ HasP L (VCode (.slice p xs.length c) xs)
  | .table, L, v => ∃ (r : Nat) (T : List Entry), v = .slice (some ⟨r, 0, none⟩) 16 16 ∧ (∀ t ∈ T, Good t.xs t.at_ t.e) ∧ T.length = 16 ∧ HasP L (Vw 3 (.slice (some ⟨r, 0, none⟩) 16 16) 16 (T.flatMap entryCells)) ∧ HasP L (Codes T)
theorem SK.ext : ∀ (s : SK) (L : List HP) (v : Value), s.ok L v → ∀ K, s.ok (K ++ L) v
  | .val _, _, _, h, _ => h
  | .row _, _, _, ⟨p, c, e, h⟩, K => ⟨p, c, e, h.ext K⟩
  | .insn _, _, _, ⟨lv, e, h⟩, K => ⟨lv, e, h.ext K⟩
  | .code _, _, _, ⟨p, c, e, h⟩, K => ⟨p, c, e, h.ext K⟩
  | .entry _ _ _, _, _, ⟨p, c, e, h⟩, K => ⟨p, c, e, h.ext K⟩
  | .table, _, _, ⟨r, T, e, h1, h2, h3, h4⟩, K => ⟨r, T, e, h1, h2, h3.ext K, h4.ext K⟩
def specOf (l : List SK) (i : Nat) (L : List HP) (v : Value) : Prop := match l[i]? with | some s => s.ok L v | none => False
theorem specOf_mono (l : List SK) (i : Nat) (L : List HP) (v : Value) (h : specOf l i L v) (K : List HP) : specOf l i (K ++ L) v := by
  unfold specOf at h ⊢
  split
  · rename_i s hs; rw [hs] at h; exact s.ext L v h K
  · rename_i hs; rw [hs] at h; exact h
theorem rows_v {L : List HP} {lv : Value} {l : List Int} {lvs : List Value} {ls : List (List Int)} (hr : RowV L lv l) (h : Ent L (Lists lvs ls :: L)) : Ent L (Lists (lv :: lvs) (l :: ls) :: L) := by
  rcases hr with ⟨rfl, rfl⟩ | ⟨p, c, rfl, hp⟩
  · exact rows_none h
  · exact hp.trans ((Ent.keep h).trans (Ent.lists_cons (fun k hk => ⟨⟨p, c, rfl⟩, hk⟩) (up_vw _ _ _ _)))
theorem row_made {r : Nat} {L : List HP} {l : List Int} (hn : l.length ≤ maxLen) : Ent (pt r (.cells (ints l).toArray 3 (0, 0)) :: L) ([Vw 1 (.slice (some ⟨r, 0, none⟩) l.length l.length) l.length (ints l)] ++ L) :=
  Ent.head fun w M hs => hs.freeze.conv (vw_of_ro (by simp) hn)
theorem code_made {r : Nat} {L : List HP} {xs : List Insn} {lvs : List Value} (hl : lvs.length = xs.length) (hn : xs.length ≤ maxLen) (h : Ent L (Lists lvs (xs.map Insn.l) :: L)) :
    Ent (pt r (.cells ((xs.zip lvs).flatMap insnCells).toArray 40 (0, 0)) :: L) ([VCode (.slice (some ⟨r, 0, none⟩) xs.length xs.length) xs] ++ L) :=
  (Ent.head (B := Vw 6 (.slice (some ⟨r, 0, none⟩) xs.length xs.length) xs.length ((xs.zip lvs).flatMap insnCells)) fun w M hs => hs.freeze.conv (vw_of_ro (by rw [length_flat length_insnCells, List.length_zip, hl, Nat.min_self]) hn)).trans (code_join h)
theorem codes_h {L : List HP} {p : Option Addr} {c : Nat} {xs : List Insn} {at_ e : Int} {T : List Entry} (hp : HasP L (VCode (.slice p xs.length c) xs)) (h : Ent L (Codes T :: L)) : Ent L (Codes (⟨p, c, xs, at_, e⟩ :: T) :: L) := by
  refine hp.trans ((Ent.keep h).trans ?_)
  intro F w hs
  refine (Sat.join (M := [VCode (.slice p xs.length c) xs, Codes T]) (L := F :: L) (hs.perm ((List.Perm.swap _ _ _).trans (List.Perm.cons _ (List.Perm.swap _ _ _)))) fun k hk => ?_).swap
  obtain ⟨h1, h2⟩ := star_two (up_code _ _) (up_codes _) hk
  intro t ht
  rcases List.mem_cons.1 ht with rfl | ht
  · exact h1
  · exact h2 t ht
theorem table_made {r : Nat} {L : List HP} {T : List Entry} (hn : T.length = 16) (h : Ent L (Codes T :: L)) : Ent (pt r (.cells (T.flatMap entryCells).toArray 48 (0, 0)) :: L) ([Vw 3 (.slice (some ⟨r, 0, none⟩) 16 16) 16 (T.flatMap entryCells), Codes T] ++ L) :=
  (Ent.head (B := Vw 3 (.slice (some ⟨r, 0, none⟩) 16 16) 16 (T.flatMap entryCells)) fun w M hs => hs.freeze.conv (vw_of_ro (n := 16) (by rw [length_flat length_entry, hn]) (by simp [maxLen]))).trans (Ent.keep h)
end Go.Proofs.Ytemanjljjlpbgaa
