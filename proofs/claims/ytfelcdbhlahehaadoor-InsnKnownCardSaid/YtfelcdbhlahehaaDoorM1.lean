/- errors.As and errors.Is at a fault: what the model's entries say (after the worked proof ToyasAs.lean). -/
import Derived.Test.YtfelcdbhlahehaaDoorM0
import Derived.WalkKit
import Derived.Stop.Asserts
namespace Go.Proofs.YtfelcdbhlahehaaDoor
open Go Go.Sp Go.RowKit Go.Extern.Stop Go.Stop Go.Extern
abbrev hnd (t : Nat) : Value := .agg #[.pointer (some ⟨1, t, none⟩)]
abbrev rv (t : Nat) (a : Addr) (fl : Int) : Value := .agg #[.pointer (some ⟨1, t, none⟩), .pointer (some a), .int .u64 fl]
abbrev types (t : Nat) : Value := .iface 176 (hnd t)
theorem rlm (z : Sem Value) (f : TypeId → Addr → Nat → Nat → Sem Value) (v : Value) :
    ReflectliteValue.method z f #[v] = (do match ← ReflectliteValue.parts v with | none => z | some (t, a, fl) => f t a fl (fl % 32)) := rfl
theorem valueOf99 (t : Addr) (w : World) : (callFunc 85 #[.iface 98 (.pointer (some t))]).run Tryd.prog w = .ok (.value (rv 98 ⟨w.heap.size, 0, none⟩ 150)) (w.alloc (.cells #[.pointer (some t)] 98)) := by
  rw [@run_callFunc_extern Tryd.prog 85 _ (fun args => ReflectliteValue.unpack (args.getD 0 (.tuple #[]))) Tryd.func85 (by kernel_rfl) (by kernel_rfl) (by kernel_rfl) (by kernel_rfl)]
  have h : (ReflectliteValue.unpack (.iface 98 (.pointer (some t)))).run Tryd.prog w = .ok (rv 98 ⟨w.heap.size, 0, none⟩ 150) (w.alloc (.cells #[.pointer (some t)] 98)) := by kernel_rfl
  show ((ReflectliteValue.unpack (.iface 98 (.pointer (some t)))).run Tryd.prog w).andThen _ = _
  rw [h]
  rfl
theorem valueOf97 (t : Addr) (w : World) : (callFunc 85 #[.iface 96 (.pointer (some t))]).run Tryd.prog w = .ok (.value (rv 96 ⟨w.heap.size, 0, none⟩ 150)) (w.alloc (.cells #[.pointer (some t)] 96)) := by
  rw [@run_callFunc_extern Tryd.prog 85 _ (fun args => ReflectliteValue.unpack (args.getD 0 (.tuple #[]))) Tryd.func85 (by kernel_rfl) (by kernel_rfl) (by kernel_rfl) (by kernel_rfl)]
  have h : (ReflectliteValue.unpack (.iface 96 (.pointer (some t)))).run Tryd.prog w = .ok (rv 96 ⟨w.heap.size, 0, none⟩ 150) (w.alloc (.cells #[.pointer (some t)] 96)) := by kernel_rfl
  show ((ReflectliteValue.unpack (.iface 96 (.pointer (some t)))).run Tryd.prog w).andThen _ = _
  rw [h]
  rfl
theorem type99 (a : Addr) (w : World) : (callFunc 86 #[rv 98 a 150]).run Tryd.prog w = .ok (.value (types 98)) w := by
  rw [@run_callFunc_extern Tryd.prog 86 _ (ReflectliteValue.methodAny (ReflectliteValue.valueError "reflectlite.Value.Type" 0) (fun t _ _ _ => ReflectliteType.toType t)) Tryd.func86 (by kernel_rfl) (by kernel_rfl) (by kernel_rfl) (by kernel_rfl)]
  have h : (ReflectliteValue.methodAny (ReflectliteValue.valueError "reflectlite.Value.Type" 0) (fun t _ _ _ => ReflectliteType.toType t) #[rv 98 a 150]).run Tryd.prog w = .ok (types 98) w := by kernel_rfl
  rw [h]
  rfl
theorem isNil99 (a p : Addr) (w : World) (ha : w.cell? a = some (.pointer (some p))) : (callFunc 87 #[rv 98 a 150]).run Tryd.prog w = .ok (.value (.bool false)) w := by
  rw [@run_callFunc_extern Tryd.prog 87 _ (ReflectliteValue.method (ReflectliteValue.valueError "reflectlite.Value.IsNil" 0) ReflectliteValue.isNil) Tryd.func87 (by kernel_rfl) (by kernel_rfl) (by kernel_rfl) (by kernel_rfl)]
  have hp : (ReflectliteValue.parts (rv 98 a 150)).run Tryd.prog w = .ok (some (98, a, 150)) w := by kernel_rfl
  have h : (ReflectliteValue.method (ReflectliteValue.valueError "reflectlite.Value.IsNil" 0) ReflectliteValue.isNil #[rv 98 a 150]).run Tryd.prog w = .ok (.bool false) w := by
    rw [rlm]
    simp only [Sem.run_bind, hp, Result.andThen]
    simp [ReflectliteValue.isNil, loadVar, isAgg, underlying, Tryd.underlying98, ha, Result.andThen]
  rw [h]
  rfl
/-- A method of a type's handle. -/
theorem mKind (h : Value) (w : World) : (Go.method (Tryd.prog.types.size + Made.depth) 176 (.agg #[h]) "Kind").run Tryd.prog w = .ok (130, h) w := by kernel_rfl
theorem mElem (h : Value) (w : World) : (Go.method (Tryd.prog.types.size + Made.depth) 176 (.agg #[h]) "Elem").run Tryd.prog w = .ok (142, .agg #[h]) w := by kernel_rfl
theorem mImpl (h : Value) (w : World) : (Go.method (Tryd.prog.types.size + Made.depth) 176 (.agg #[h]) "Implements").run Tryd.prog w = .ok (143, .agg #[h]) w := by kernel_rfl
theorem mAssign (h : Value) (w : World) : (Go.method (Tryd.prog.types.size + Made.depth) 176 (.agg #[h]) "AssignableTo").run Tryd.prog w = .ok (140, .agg #[h]) w := by kernel_rfl
theorem mComp (h : Value) (w : World) : (Go.method (Tryd.prog.types.size + Made.depth) 176 (.agg #[h]) "Comparable").run Tryd.prog w = .ok (141, .agg #[h]) w := by kernel_rfl
theorem kind99 (w : World) : (callFunc 130 #[.pointer (some ⟨1, 98, none⟩)]).run Tryd.prog w = .ok (.value (.int .u8 22)) w := by
  rw [@run_callFunc_extern Tryd.prog 130 _ (ReflectliteType.abiMethod fun t => do pure (.int .u8 (← Rtype.kind t))) Tryd.func130 (by kernel_rfl) (by kernel_rfl) (by kernel_rfl) (by kernel_rfl)]
  have h : (ReflectliteType.abiMethod (fun t => do pure (.int .u8 (← Rtype.kind t))) #[.pointer (some ⟨1, 98, none⟩)]).run Tryd.prog w = .ok (.int .u8 22) w := by kernel_rfl
  rw [h]
  rfl
theorem kind97 (w : World) : (callFunc 130 #[.pointer (some ⟨1, 96, none⟩)]).run Tryd.prog w = .ok (.value (.int .u8 22)) w := by
  rw [@run_callFunc_extern Tryd.prog 130 _ (ReflectliteType.abiMethod fun t => do pure (.int .u8 (← Rtype.kind t))) Tryd.func130 (by kernel_rfl) (by kernel_rfl) (by kernel_rfl) (by kernel_rfl)]
  have h : (ReflectliteType.abiMethod (fun t => do pure (.int .u8 (← Rtype.kind t))) #[.pointer (some ⟨1, 96, none⟩)]).run Tryd.prog w = .ok (.int .u8 22) w := by kernel_rfl
  rw [h]
  rfl
theorem elem99 (w : World) : (callFunc 142 #[hnd 98]).run Tryd.prog w = .ok (.value (types 96)) w := by
  rw [@run_callFunc_extern Tryd.prog 142 _ (ReflectliteType.method ReflectliteType.elem) Tryd.func142 (by kernel_rfl) (by kernel_rfl) (by kernel_rfl) (by kernel_rfl)]
  have h : (ReflectliteType.method ReflectliteType.elem #[hnd 98]).run Tryd.prog w = .ok (types 96) w := by kernel_rfl
  rw [h]
  rfl
theorem impl97 (w : World) : (callFunc 143 #[hnd 96, types 39]).run Tryd.prog w = .ok (.value (.bool true)) w := by
  rw [@run_callFunc_extern Tryd.prog 143 _ (ReflectliteType.relation "Implements" ReflectliteType.implements_) Tryd.func143 (by kernel_rfl) (by kernel_rfl) (by kernel_rfl) (by kernel_rfl)]
  have h : (ReflectliteType.relation "Implements" ReflectliteType.implements_ #[hnd 96, types 39]).run Tryd.prog w = .ok (.bool true) w := by kernel_rfl
  rw [h]
  rfl
theorem typeOf97 (v : Value) (w : World) : (callFunc 89 #[.iface 96 v]).run Tryd.prog w = .ok (.value (types 96)) w := by
  rw [@run_callFunc_extern Tryd.prog 89 _ ReflectliteType.typeOf Tryd.func89 (by kernel_rfl) (by kernel_rfl) (by kernel_rfl) (by kernel_rfl)]
  have h : (ReflectliteType.typeOf #[.iface 96 v]).run Tryd.prog w = .ok (types 96) w := by kernel_rfl
  rw [h]
  rfl
theorem typeOf34 (v : Value) (w : World) : (callFunc 89 #[.iface 26 v]).run Tryd.prog w = .ok (.value (types 26)) w := by
  rw [@run_callFunc_extern Tryd.prog 89 _ ReflectliteType.typeOf Tryd.func89 (by kernel_rfl) (by kernel_rfl) (by kernel_rfl) (by kernel_rfl)]
  have h : (ReflectliteType.typeOf #[.iface 26 v]).run Tryd.prog w = .ok (types 26) w := by kernel_rfl
  rw [h]
  rfl
theorem assign97 (w : World) : (callFunc 140 #[hnd 96, types 96]).run Tryd.prog w = .ok (.value (.bool true)) w := by
  rw [@run_callFunc_extern Tryd.prog 140 _ (ReflectliteType.relation "AssignableTo" ReflectliteType.assignableTo) Tryd.func140 (by kernel_rfl) (by kernel_rfl) (by kernel_rfl) (by kernel_rfl)]
  have h : (ReflectliteType.relation "AssignableTo" ReflectliteType.assignableTo #[hnd 96, types 96]).run Tryd.prog w = .ok (.bool true) w := by kernel_rfl
  rw [h]
  rfl
end Go.Proofs.YtfelcdbhlahehaaDoor
