/- A slice's front part; the lesser of two. -/
import Derived.Test.YtejhdhmopiahhaaDoorSp14
namespace Go.Sp
open Go.RowKit
section
variable {P : Program} {N : Nat} {rd : Option Nat} {E : Env} {D : List Deferred} {L : List HP} {Q : Post} {next : Env → List Deferred → List HP → Prop}
variable {d : Option Nat} {ty : TypeId} {pos : String} {after : Array Edge} {g : Option (Nat × Bool)}
theorem JO_front {t e : TypeId} [TU P t (.slice e)] {z : Value} {n k : Nat} [TI P e z n k] {x hi : Operand} {p : Option Addr} {len cap j : Nat} {ik : IntKind} (hx : ev E x = some (.slice p len cap)) (hh : ev E hi = some (.int ik (j : Int))) (hj : j ≤ cap) (hd : dok N d = true) (h : next (put E d (.slice p j cap)) D L) : JO P N rd ⟨d, .slice t x none (some hi) none, ty, pos, after, g⟩ E D L next Q :=
  JO_pure _ (fun c => by simp) hd (fun a w hr => by
    obtain ⟨i, h1, h2, h3, h4⟩ := TI.h (P := P) (t := e) (z := z) (n := n) (b := k)
    have h5 : (Instr.sliceAt t (.slice p len cap) none (some (.int ik (j : Int))) none).run P w = (Instr.slice t (.slice p len cap) none (some (.int ik (j : Int))) none).run P w := by simp [Instr.sliceAt, run_underlying' (TU.h (P := P) (t := t))]
    have h6 : (if cap = 0 then p else p.map (·.add (0 * i.size))) = p := by
      split
      · rfl
      · cases p with
        | none => rfl
        | some a => simp [Addr.add]
    simp [execOp, hr.eval hx, hr.eval hh, h5, Instr.slice, Instr.sliceBounds, run_underlying' (TU.h (P := P) (t := t)), run_sliceBound _ ik (j : Int) cap _ (by omega) (by omega), run_sizeOf' h1]
    simpa using h6) h
theorem run_eqB {t : TypeId} [TU P t .bool] (m n : Bool) (w : World) : (Op.equal t (.bool m) (.bool n)).run P w = .ok (m == n) w := by
  unfold Op.equal
  rw [show Op.maxDepth = 9999 + 1 from rfl]
  unfold Op.equalIn
  simp [run_underlying' (TU.h (P := P) (t := t))]
theorem JO_neB {x y : Operand} {t u : TypeId} [TU P t .bool] {m n : Bool} (hx : ev E x = some (.bool m)) (hy : ev E y = some (.bool n)) (hd : dok N d = true) (h : next (put E d (.bool (m != n))) D L) : JO P N rd ⟨d, .binOp .neq t x y u, ty, pos, after, g⟩ E D L next Q :=
  JO_pure _ (fun c => by simp) hd (fun a w hr => by simp [execOp, hr.eval hx, hr.eval hy, eqGuard, binOp, run_eqB]; cases m <;> cases n <;> rfl) h
theorem JO_eqB {x y : Operand} {t u : TypeId} [TU P t .bool] {m n : Bool} (hx : ev E x = some (.bool m)) (hy : ev E y = some (.bool n)) (hd : dok N d = true) (h : next (put E d (.bool (m == n))) D L) : JO P N rd ⟨d, .binOp .eql t x y u, ty, pos, after, g⟩ E D L next Q :=
  JO_pure _ (fun c => by simp) hd (fun a w hr => by simp [execOp, hr.eval hx, hr.eval hy, eqGuard, binOp, run_eqB]) h
/-- Two that are the same. -/
theorem JO_neB0 {x y : Operand} {t u : TypeId} [TU P t .bool] {m : Bool} (hx : ev E x = some (.bool m)) (hy : ev E y = some (.bool m)) (hd : dok N d = true) (h : next (put E d (.bool false)) D L) : JO P N rd ⟨d, .binOp .neq t x y u, ty, pos, after, g⟩ E D L next Q :=
  JO_neB hx hy hd (by rw [bne_self_eq_false]; exact h)
end
end Go.Sp
