/- The law's 'told' at a fault. -/
import Derived.Test.YtfelcdbhlahehaaDoorM2
import Derived.LaidEql
namespace Go.Proofs.YtfelcdbhlahehaaDoor
open Go Go.Sp Go.Stop
theorem eqG36 (x y : Operand) (c a : Int) (w : World) : (eqGuard .eql 47 x y (faultV c a) (faultV c a)).run Tryd.prog w = .ok () w := by kernel_rfl
theorem eq36 (c a : Int) (w : World) : (binOp .eql 47 (faultV c a) (faultV c a)).run Tryd.prog w = .ok (.bool true) w := by
  have h1 : ∀ n x, (Op.equalIn (n + 1) 26 (.int .i64 x) (.int .i64 x)).run Tryd.prog w = .ok true w := fun n x => by
    unfold Op.equalIn
    simp [run_underlying' (TU.h (P := Tryd.prog) (t := 26))]
  have h2 : ∀ n x, (Op.equalIn (n + 1) 3 (.int .i64 x) (.int .i64 x)).run Tryd.prog w = .ok true w := fun n x => by
    unfold Op.equalIn
    simp [run_underlying' (TU.h (P := Tryd.prog) (t := 3))]
  have h : (Op.equal 47 (faultV c a) (faultV c a)).run Tryd.prog w = .ok true w := by
    unfold Op.equal
    rw [show Op.maxDepth = (9998 + 1) + 1 from rfl]
    unfold Op.equalIn
    simp [run_underlying' (TU.h (P := Tryd.prog) (t := 47))]
    obtain ⟨f0, f1, hf, n0, t0, o0, n1, t1, o1⟩ : ∃ f0 f1, structFields Tryd.prog 47 = #[f0, f1] ∧ f0.name = "Code" ∧ f0.type = 26 ∧ f0.offset = 0 ∧ f1.name = "At" ∧ f1.type = 3 ∧ f1.offset = 1 :=
      ⟨(structFields Tryd.prog 47)[0]!, (structFields Tryd.prog 47)[1]!, by kernel_rfl, by kernel_rfl, by kernel_rfl, by kernel_rfl, by kernel_rfl, by kernel_rfl, by kernel_rfl⟩
    have p0 : (part 26 #[.int .i64 c, .int .i64 a] 0).run Tryd.prog w = .ok (.int .i64 c) w := by kernel_rfl
    have p1 : (part 3 #[.int .i64 c, .int .i64 a] 1).run Tryd.prog w = .ok (.int .i64 a) w := by kernel_rfl
    have g1 : (Op.equalIn 9999 26 (.int .i64 c) (.int .i64 c)).run Tryd.prog w = .ok true w := h1 9998 c
    have g2 : (Op.equalIn 9999 3 (.int .i64 a) (.int .i64 a)).run Tryd.prog w = .ok true w := h2 9998 a
    rw [hf]
    simp [n0, t0, o0, n1, t1, o1, p0, p1, g1, g2]
  have e : binOp .eql 47 (faultV c a) (faultV c a) = (do pure (Value.bool (← Op.equal 47 (faultV c a) (faultV c a)))) := rfl
  rw [e]
  simp only [Sem.run_bind, h, Result.andThen_ok, Sem.run_pure]
attribute [local irreducible] callFunc Go.method J JL JO Ct JG JM JQ JQ0 JS CtD LeavesQ
end Go.Proofs.YtfelcdbhlahehaaDoor
