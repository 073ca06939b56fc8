/- errors.Is at a fault. -/
import Derived.Test.YtejhdhmopiahhaaDoorO9
namespace Go.Proofs.YtejhdhmopiahhaaDoor
open Go Go.Sp Go.Stop
section
variable {P : Program} {N : Nat} {rd : Option Nat} {E : Env} {D : List Deferred} {L : List HP} {Q : Post} {next : Env → List Deferred → List HP → Prop}
variable {d : Option Nat} {ty : TypeId} {pos : String} {after : Array Edge} {g : Option (Nat × Bool)}
theorem JQ_assertK {x : Operand} {xt t : TypeId} {v u : Value} (hx : ev E x = some v) (h : ∀ w, (Instr.typeAssert v xt t true).run P w = .ok u w) : JQ P N ⟨d, .typeAssert x xt t true, ty, pos, after, g⟩ E D L u := fun F a hr w hs => by
  simp [execOp, hr.eval hx, h]
theorem JQ_eqK {x y : Operand} {t u : TypeId} {v1 v2 : Value} {r : Bool} (hx : ev E x = some v1) (hy : ev E y = some v2) (hg : ∀ w, (eqGuard .eql t x y v1 v2).run P w = .ok () w) (h : ∀ w, (binOp .eql t v1 v2).run P w = .ok (.bool r) w) : JQ P N ⟨d, .binOp .eql t x y u, ty, pos, after, g⟩ E D L (.bool r) := fun F a hr w hs => by
  have e : execOp a.eval ⟨d, .binOp .eql t x y u, ty, pos, after, g⟩ = (do let r ← (do eqGuard .eql t x y (a.eval x) (a.eval y); binOp .eql t (a.eval x) (a.eval y)); pure (Next.value r)) := rfl
  rw [e, hr.eval hx, hr.eval hy]
  simp only [Sem.run_bind, hg, h, Result.andThen_ok, Sem.run_pure]
end
theorem ne9734 (v w' : Value) (w : World) : (binOp .eql 31 (.iface 97 v) (.iface 34 w')).run Tryd.prog w = .ok (.bool false) w := by
  have h : (Op.equal 31 (.iface 97 v) (.iface 34 w')).run Tryd.prog w = .ok false w := by
    unfold Op.equal
    rw [show Op.maxDepth = 9999 + 1 from rfl]
    unfold Op.equalIn
    simp [run_underlying' (TU.h (P := Tryd.prog) (t := 31))]
  have e : binOp .eql 31 (.iface 97 v) (.iface 34 w') = (do pure (Value.bool (← Op.equal 31 (.iface 97 v) (.iface 34 w')))) := rfl
  rw [e]
  simp only [Sem.run_bind, h, Result.andThen_ok, Sem.run_pure]
theorem eq34 (c : Int) (w : World) : (binOp .eql 31 (.iface 34 (.int .i64 c)) (.iface 34 (.int .i64 c))).run Tryd.prog w = .ok (.bool true) w := by
  obtain ⟨i, h2, h3⟩ : ∃ i, (∀ w, (typeInfo 34).run Tryd.prog w = .ok i w) ∧ i.comparable = true := ⟨Tryd.prog.types[34]!, fun w => by kernel_rfl, by kernel_rfl⟩
  have h4 : (Op.equalIn (9998 + 1) 34 (.int .i64 c) (.int .i64 c)).run Tryd.prog w = .ok true w := by
    unfold Op.equalIn
    simp [run_underlying' (TU.h (P := Tryd.prog) (t := 34))]
  have h : (Op.equal 31 (.iface 34 (.int .i64 c)) (.iface 34 (.int .i64 c))).run Tryd.prog w = .ok true w := by
    unfold Op.equal
    rw [show Op.maxDepth = (9998 + 1) + 1 from rfl]
    unfold Op.equalIn
    simp [run_underlying' (TU.h (P := Tryd.prog) (t := 31)), h2, h3]
    exact h4
  have e : binOp .eql 31 (.iface 34 (.int .i64 c)) (.iface 34 (.int .i64 c)) = (do pure (Value.bool (← Op.equal 31 (.iface 34 (.int .i64 c)) (.iface 34 (.int .i64 c))))) := rfl
  rw [e]
  simp only [Sem.run_bind, h, Result.andThen_ok, Sem.run_pure]
theorem noIs (v : Value) (x : TypeId) (w : World) : (Instr.typeAssert (.iface 97 v) x 146 true).run Tryd.prog w = .ok (.tuple #[.nilIface, .bool false]) w := run_typeAssert_lacksB Tryd.underlying146 (by kernel_rfl) (by kernel_rfl) v x w
theorem noIs34 (v : Value) (x : TypeId) (w : World) : (Instr.typeAssert (.iface 34 v) x 146 true).run Tryd.prog w = .ok (.tuple #[.nilIface, .bool false]) w := run_typeAssert_lacksB Tryd.underlying146 (by kernel_rfl) (by kernel_rfl) v x w
theorem hasUnwrap (q : Nat) (w : World) : (Instr.typeAssert (faultI q) 31 142 true).run Tryd.prog w = .ok (.tuple [faultI q, .bool true].toArray) w := by kernel_rfl
theorem mUnwrap (q : Nat) (w : World) : (Go.method (Tryd.prog.types.size + Made.depth) 97 (ptr q) "Unwrap").run Tryd.prog w = .ok (91, ptr q) w := by kernel_rfl
attribute [local irreducible] callFunc Go.method J JL JO Ct JG JM JQ JQ0 JS CtD LeavesQ
theorem unwrap_c (q : Nat) (code at_ : Int) : Ct Tryd.prog 91 #[ptr q] [Ft q code at_] (RetV (.iface 34 (.int .i64 code)) [Ft q code at_]) := by
  refine fn_ret (vs := [_]) Tryd.func91 rfl Tryd.ntmps91 (by simp) ?_
  repeat (first | (first | refine J_region ?_ | refine JL_nil ?_ | refine J_seq ?_ | refine J_block ?_ | refine J_skip ?_ | refine J_label ?_ | refine J_condT rfl ?_ | refine J_condF rfl ?_ | refine J_exit ?_ | refine J_ret ?_) | (first | ((first | refine JL_step rfl ?_ | refine JL_take rfl rfl ?_); first | refine JO_q (by simp) (JQ_nilCheck rfl) rfl ?_ | refine JO_move rfl rfl ?_ | refine JO_assign rfl rfl ?_ | refine JO_len rfl rfl ?_ | refine JO_lenS rfl rfl ?_ | refine JO_field0 rfl rfl ?_ | refine JO_field rfl rfl ?_ | refine JO_load rfl rfl ?_ | refine JO_loadW rfl (by rfl) rfl ?_ | refine JO_pickT rfl rfl rfl ?_ | refine JO_pickF rfl rfl rfl ?_ | refine JO_lss rfl rfl rfl ?_ | refine JO_leq rfl rfl rfl ?_ | refine JO_gtr rfl rfl rfl ?_ | refine JO_geq rfl rfl rfl ?_ | refine JO_eqI rfl rfl rfl ?_ | refine JO_neI rfl rfl rfl ?_ | refine JO_and rfl rfl rfl ?_ | refine JO_or rfl rfl rfl ?_ | refine JO_xor rfl rfl rfl ?_ | refine JO_andNot rfl rfl rfl ?_ | refine JO_conv rfl rfl ?_ | refine JO_eqNilS rfl rfl ?_ | refine JO_buildSlice rfl rfl rfl (by decide) rfl (fun r => ?_) | refine JO_notP rfl rfl ?_ | refine JO_not rfl rfl ?_ | refine JO_addN rfl rfl (by omega) rfl ?_ | refine JO_add rfl rfl (by omega) rfl ?_ | refine JO_sub rfl rfl (by omega) rfl ?_ | refine JO_extract rfl rfl rfl ?_ | refine JO_boxA rfl rfl (fun r => ?_) | refine JO_box1 rfl rfl rfl (fun r => ?_) | refine JO_allocA rfl (fun r => ?_) | refine JO_alloc1 (by rfl) rfl (fun r => ?_) | refine JO_makeFunc rfl rfl rfl ?_ | refine JO_makeIface (by simp) rfl rfl ?_ | refine JO_store rfl rfl (by first | rfl | assumption) rfl ?_ | refine JO_storeW rfl rfl (by rfl) (by rfl) (by first | decide | simp [Value.oneCell']) rfl ?_ | refine JO_index1 rfl rfl (by omega) rfl ?_ | refine JO_index rfl rfl (by omega) rfl ?_) | refine JL_pass rfl rfl rfl ?_ | refine JL_passN rfl rfl rfl ?_))
  exact ret_oneV rfl rfl Ent.sel
end Go.Proofs.YtejhdhmopiahhaaDoor
