/- Made rows of structs; a slice's rear part; lists of rows, put together. -/
import Derived.Test.YtejhdhmopiahhaaDoorSp19
namespace Go.Sp
open Go.RowKit
section
variable {P : Program} {N : Nat} {rd : Option Nat} {E : Env} {D : List Deferred} {L : List HP} {Q : Post} {next : Env → List Deferred → List HP → Prop}
variable {d : Option Nat} {ty : TypeId} {pos : String} {after : Array Edge} {g : Option (Nat × Bool)}
theorem JO_makeM {x y : Operand} {t e sz k : Nat} [TU P t (.slice e)] {z : Value} [TI P e z sz k] {n : Nat} {ik jk : IntKind} (cs : List Value) (hx : ev E x = some (.int ik (n : Int))) (hy : ev E y = some (.int jk (n : Int))) (hcs : madeCells z.cells (n * sz) = cs.toArray) (hb : k * n ≤ 281474976710656) (hn : n ≤ maxLen)
    (hd : dok N d = true) (h : ∀ b, next (put E d (.slice (some ⟨b, 0, none⟩) n n)) D (pt b (.cells cs.toArray e (0, 0)) :: L)) : JO P N rd ⟨d, .makeSlice t x y, ty, pos, after, g⟩ E D L next Q :=
  JO_value (fun c => by simp) hd fun F a w hr hs => by
    obtain ⟨i, h1, h2, h3, h4⟩ := TI.h (P := P) (t := e) (z := z) (n := sz) (b := k)
    have hb' : (i.bytes : Int) * (n : Int) ≤ 281474976710656 := by rw [h4, ← Int.natCast_mul]; omega
    have hr2 := run_make (P := P) w t e i z TU.h h1 h2 ik jk n n (by omega) (Int.le_refl _) hb' (by simp [maxLen] at hn; omega)
    have e1 : madeCells z.cells ((n : Int).toNat * i.size) = cs.toArray := by rw [h3, Int.toNat_natCast]; exact hcs
    rw [e1] at hr2
    simp only [Int.toNat_natCast] at hr2
    exact ⟨_, _, _, by simp [execOp, hr.eval hx, hr.eval hy, hr2], (hs.new _).swap, h _⟩
theorem JO_from {t e : TypeId} [TU P t (.slice e)] {z : Value} {n k : Nat} [TI P e z n k] {x lo : Operand} {b o len cap j : Nat} {ik : IntKind} (hx : ev E x = some (.slice (some ⟨b, o, none⟩) len cap)) (hh : ev E lo = some (.int ik (j : Int))) (hj : j ≤ len) (hc : len ≤ cap) (hjc : j < cap)
    (hd : dok N d = true) (h : next (put E d (.slice (some ⟨b, o + j * n, none⟩) (len - j) (cap - j))) D L) : JO P N rd ⟨d, .slice t x (some lo) none none, ty, pos, after, g⟩ E D L next Q :=
  JO_pure _ (fun c => by simp) hd (fun a w hr => by
    obtain ⟨i, h1, h2, h3, h4⟩ := TI.h (P := P) (t := e) (z := z) (n := n) (b := k)
    have h5 : (Instr.sliceAt t (.slice (some ⟨b, o, none⟩) len cap) (some (.int ik (j : Int))) none none).run P w = (Instr.slice t (.slice (some ⟨b, o, none⟩) len cap) (some (.int ik (j : Int))) none none).run P w := by simp [Instr.sliceAt, run_underlying' (TU.h (P := P) (t := t))]
    have h6 : ¬ cap = j := by omega
    simp [execOp, hr.eval hx, hr.eval hh, h5, Instr.slice, Instr.sliceBounds, run_underlying' (TU.h (P := P) (t := t)), run_sliceBound _ ik (j : Int) len _ (by omega) (by omega), run_sizeOf' h1, addr_add, h3, h6]) h
end
theorem rows_nil {L : List HP} : Ent L (Lists [] [] :: L) := Ent.cons fun w M h => h.add (lists_nil _)
theorem Ent.lists_cons {A : HP} {lv : Value} {l : List Int} {lvs : List Value} {ls : List (List Int)} {L : List HP} (hA : ∀ k, A k → (∃ p cap, lv = .slice p l.length cap) ∧ Vw 1 lv l.length (ints l) k) (hup : Up A) : Ent (A :: Lists lvs ls :: L) (Lists (lv :: lvs) (l :: ls) :: L) := fun F w hs => by
  refine (Sat.join (M := [A, Lists lvs ls]) (L := F :: L) (hs.perm ((List.Perm.swap _ _ _).trans (List.Perm.cons _ (List.Perm.swap _ _ _)))) fun k hk => ?_).swap
  obtain ⟨h1, h2⟩ := star_two hup (up_lists _ _) hk
  obtain ⟨h3, h4⟩ := hA k h1
  refine ⟨by simp [h2.1], fun i lv' l' ha hb => ?_⟩
  cases i with
  | zero => simp at ha hb; subst ha; subst hb; exact ⟨h3, h4⟩
  | succ i => exact h2.2 i lv' l' (by simpa using ha) (by simpa using hb)
theorem rows_none {L : List HP} {lvs : List Value} {ls : List (List Int)} (h : Ent L (Lists lvs ls :: L)) : Ent L (Lists (.slice none 0 0 :: lvs) ([] :: ls) :: L) :=
  h.trans ((Ent.cons (A := Vw 1 (.slice none 0 0) 0 []) fun w M hs => hs.add ⟨rfl, Nat.zero_le _, none, 0, rfl, .inl rfl⟩).trans (Ent.lists_cons (l := []) (fun k hk => ⟨⟨none, 0, rfl⟩, hk⟩) (up_vw _ _ _ _)))
theorem rows_some {L M : List HP} {lvs : List Value} {ls : List (List Int)} {p : Option Addr} {n c : Nat} {l : List Int} (hn : n = l.length) [t : Tk (Vw 1 (.slice p n c) n (ints l)) L M] (h : Ent L (Lists lvs ls :: L)) : Ent L (Lists (.slice p n c :: lvs) (l :: ls) :: L) := by
  subst hn
  exact (Ent.dup (Vw 1 (.slice p l.length c) l.length (ints l))).trans ((Ent.keep h).trans (Ent.lists_cons (fun k hk => ⟨⟨p, c, rfl⟩, hk⟩) (up_vw _ _ _ _)))
end Go.Sp
