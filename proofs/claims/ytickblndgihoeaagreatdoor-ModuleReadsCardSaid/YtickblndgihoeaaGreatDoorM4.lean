/- The law's 'told' at a fault. -/
import Derived.Test.YtickblndgihoeaaGreatDoorM3
import Derived.LaidEql
namespace Go.Proofs.YtickblndgihoeaaGreatDoor
open Go Go.Sp Go.Stop
theorem eqG36 (x y : Operand) (c a : Int) (w : World) : (eqGuard .eql 87 x y (uC c a) (uC c a)).run Tryz.prog w = .ok () w := by kernel_rfl
theorem eq36 (c a : Int) (w : World) : (binOp .eql 87 (uC c a) (uC c a)).run Tryz.prog w = .ok (.bool true) w := by
  have h1 : ∀ n x,(Op.equalIn (n + 1) 30 (.int .i64 x) (.int .i64 x)).run Tryz.prog w = .ok true w := fun n x => by
    unfold Op.equalIn
    simp [yM (TU.h (P := Tryz.prog) (t := 30))]
  have h2 : ∀ n x,(Op.equalIn (n + 1) 3 (.int .i64 x) (.int .i64 x)).run Tryz.prog w = .ok true w := fun n x => by
    unfold Op.equalIn
    simp [yM (TU.h (P := Tryz.prog) (t := 3))]
  have h : (Op.equal 87 (uC c a) (uC c a)).run Tryz.prog w = .ok true w := by
    unfold Op.equal
    rw [show Op.maxDepth = (9998 + 1) + 1 from rfl]
    unfold Op.equalIn
    simp [yM (TU.h (P := Tryz.prog) (t := 87))]
    obtain ⟨f0, f1, hf, n0, t0, o0, n1, t1, o1⟩ : ∃ f0 f1, structFields Tryz.prog 87 = #[f0, f1] ∧ f0.name = "Code" ∧ f0.type = 30 ∧ f0.offset = 0 ∧ f1.name = "At" ∧ f1.type = 3 ∧ f1.offset = 1 :=
      ⟨(structFields Tryz.prog 87)[0]!,(structFields Tryz.prog 87)[1]!,by kernel_rfl,by kernel_rfl,by kernel_rfl,by kernel_rfl,by kernel_rfl,by kernel_rfl,by kernel_rfl⟩
    have p0 : (part 30 #[.int .i64 c,.int .i64 a] 0).run Tryz.prog w = .ok (.int .i64 c) w := by kernel_rfl
    have p1 : (part 3 #[.int .i64 c,.int .i64 a] 1).run Tryz.prog w = .ok (.int .i64 a) w := by kernel_rfl
    have g1 : (Op.equalIn 9999 30 (.int .i64 c) (.int .i64 c)).run Tryz.prog w = .ok true w := h1 9998 c
    have g2 : (Op.equalIn 9999 3 (.int .i64 a) (.int .i64 a)).run Tryz.prog w = .ok true w := h2 9998 a
    rw [hf]
    simp [n0,t0,o0,n1,t1,o1,p0,p1,g1,g2]
  have e : binOp .eql 87 (uC c a) (uC c a) = (do pure (Value.bool (← Op.equal 87 (uC c a) (uC c a)))) := rfl
  rw [e]
  simp only [Sem.run_bind,h,Result.andThen_ok,Sem.run_pure]
attribute [local irreducible] callFunc Go.method J JL JO Ct JG JM JQ JQ0 JS CtD xB
set_option maxRecDepth 8000 in
set_option maxHeartbeats 16000000 in
theorem told_fault (q : Nat) (code at_ : Int) (hc : code ≠ 0) (te : TypeId) (fz : Nat × Nat) : Ct Tryz.prog 32 #[xH q,uC code at_] [Ft q code at_,ro 0 (.cells [types 43].toArray te fz)] (wF (.bool true) []) := by
  refine yE (vs := [_,_]) Tryz.func32 rfl Tryz.ntmps32 (by simp) ?_
  repeat (first|(first|refine zB ?_|refine zE ?_|refine zG ?_)|(first|((first|refine zA rfl ?_|refine zZ rfl rfl ?_);first|refine JOq (JQ_eqI1 rfl) rfl ?_|refine zD rfl rfl ?_|refine zC rfl rfl ?_|refine zF rfl rfl ?_|refine zH rfl rfl ?_|refine yJ rfl rfl rfl ?_|refine JO_eqI rfl rfl rfl ?_|refine yN rfl rfl (fun r => ?_))))
  refine J_condP (p := code = 0) rfl (fun h => absurd h hc) (fun _ => ?_)
  repeat (first|(first|refine zB ?_|refine zE ?_|refine zG ?_|refine zP ?_)|(first|((first|refine zA rfl ?_);first|refine tL (by rfl) rfl (fun r => ?_))))
  rename_i r3
  repeat' (first|refine J_regionD ?_|refine JA_end rfl ?_|refine JA_step rfl ?_|exact jal_nil|refine jal_no rfl ?_|refine jal_yes rfl ?_ ?_|(first|((first|refine JA_op rfl rfl ?_|refine JA_take rfl rfl rfl ?_);first|refine zD rfl rfl ?_|refine zC rfl rfl ?_|refine zF rfl rfl ?_|refine zH rfl rfl ?_|refine zU rfl (by rfl) rfl ?_|refine yA rfl rfl rfl ?_|refine vD (by simp) rfl rfl ?_|refine zN rfl (As_c q r (.pointer none) te fz) rfl ?_|refine zN rfl (Is_c q code at_) rfl ?_|refine JOq (yQ rfl) rfl ?_|refine JOq (JQ_eqK rfl rfl (eqG36 _ _ _ _) (eq36 _ _)) rfl ?_)))
  all_goals (refine zV ?_;exact zY rfl rfl .nil)
end Go.Proofs.YtickblndgihoeaaGreatDoor
