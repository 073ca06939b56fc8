/- errors.As and errors.Is at a fault: what the model's entries say (after the worked proof ToyasAs.lean). -/
import Derived.Test.YtejhdhmopiahhaaDoorM2
import Derived.WalkKit
import Derived.Stop.Asserts
namespace Go.Proofs.YtejhdhmopiahhaaDoor
open Go Go.Sp Go.RowKit Go.Extern.Stop Go.Stop Go.Extern
abbrev hnd (t : Nat) : Value := .agg #[.pointer (some ⟨1, t, none⟩)]
abbrev rv (t : Nat) (a : Addr) (fl : Int) : Value := .agg #[.pointer (some ⟨1, t, none⟩), .pointer (some a), .int .u64 fl]
abbrev types (t : Nat) : Value := .iface 135 (hnd t)
theorem rlm (z : Sem Value) (f : TypeId → Addr → Nat → Nat → Sem Value) (v : Value) :
    ReflectliteValue.method z f #[v] = (do match ← ReflectliteValue.parts v with | none => z | some (t, a, fl) => f t a fl (fl % 32)) := rfl
theorem valueOf99 (t : Addr) (w : World) : (callFunc 59 #[.iface 99 (.pointer (some t))]).run Tryd.prog w = .ok (.value (rv 99 ⟨w.heap.size, 0, none⟩ 150)) (w.alloc (.cells #[.pointer (some t)] 99)) := by
  rw [@run_callFunc_extern Tryd.prog 59 _ (fun args => ReflectliteValue.unpack (args.getD 0 (.tuple #[]))) Tryd.func59 (by kernel_rfl) (by kernel_rfl) (by kernel_rfl) (by kernel_rfl)]
  have h : (ReflectliteValue.unpack (.iface 99 (.pointer (some t)))).run Tryd.prog w = .ok (rv 99 ⟨w.heap.size, 0, none⟩ 150) (w.alloc (.cells #[.pointer (some t)] 99)) := by kernel_rfl
  show ((ReflectliteValue.unpack (.iface 99 (.pointer (some t)))).run Tryd.prog w).andThen _ = _
  rw [h]
  rfl
theorem valueOf97 (t : Addr) (w : World) : (callFunc 59 #[.iface 97 (.pointer (some t))]).run Tryd.prog w = .ok (.value (rv 97 ⟨w.heap.size, 0, none⟩ 150)) (w.alloc (.cells #[.pointer (some t)] 97)) := by
  rw [@run_callFunc_extern Tryd.prog 59 _ (fun args => ReflectliteValue.unpack (args.getD 0 (.tuple #[]))) Tryd.func59 (by kernel_rfl) (by kernel_rfl) (by kernel_rfl) (by kernel_rfl)]
  have h : (ReflectliteValue.unpack (.iface 97 (.pointer (some t)))).run Tryd.prog w = .ok (rv 97 ⟨w.heap.size, 0, none⟩ 150) (w.alloc (.cells #[.pointer (some t)] 97)) := by kernel_rfl
  show ((ReflectliteValue.unpack (.iface 97 (.pointer (some t)))).run Tryd.prog w).andThen _ = _
  rw [h]
  rfl
theorem type99 (a : Addr) (w : World) : (callFunc 60 #[rv 99 a 150]).run Tryd.prog w = .ok (.value (types 99)) w := by
  rw [@run_callFunc_extern Tryd.prog 60 _ (ReflectliteValue.methodAny (ReflectliteValue.valueError "reflectlite.Value.Type" 0) (fun t _ _ _ => ReflectliteType.toType t)) Tryd.func60 (by kernel_rfl) (by kernel_rfl) (by kernel_rfl) (by kernel_rfl)]
  have h : (ReflectliteValue.methodAny (ReflectliteValue.valueError "reflectlite.Value.Type" 0) (fun t _ _ _ => ReflectliteType.toType t) #[rv 99 a 150]).run Tryd.prog w = .ok (types 99) w := by kernel_rfl
  rw [h]
  rfl
theorem isNil99 (a p : Addr) (w : World) (ha : w.cell? a = some (.pointer (some p))) : (callFunc 61 #[rv 99 a 150]).run Tryd.prog w = .ok (.value (.bool false)) w := by
  rw [@run_callFunc_extern Tryd.prog 61 _ (ReflectliteValue.method (ReflectliteValue.valueError "reflectlite.Value.IsNil" 0) ReflectliteValue.isNil) Tryd.func61 (by kernel_rfl) (by kernel_rfl) (by kernel_rfl) (by kernel_rfl)]
  have hp : (ReflectliteValue.parts (rv 99 a 150)).run Tryd.prog w = .ok (some (99, a, 150)) w := by kernel_rfl
  have h : (ReflectliteValue.method (ReflectliteValue.valueError "reflectlite.Value.IsNil" 0) ReflectliteValue.isNil #[rv 99 a 150]).run Tryd.prog w = .ok (.bool false) w := by
    rw [rlm]
    simp only [Sem.run_bind, hp, Result.andThen]
    simp [ReflectliteValue.isNil, loadVar, isAgg, underlying, Tryd.underlying99, ha, Result.andThen]
  rw [h]
  rfl
/-- A method of a type's handle. -/
theorem mKind (h : Value) (w : World) : (Go.method (Tryd.prog.types.size + Made.depth) 135 (.agg #[h]) "Kind").run Tryd.prog w = .ok (86, h) w := by kernel_rfl
theorem mElem (h : Value) (w : World) : (Go.method (Tryd.prog.types.size + Made.depth) 135 (.agg #[h]) "Elem").run Tryd.prog w = .ok (98, .agg #[h]) w := by kernel_rfl
theorem mImpl (h : Value) (w : World) : (Go.method (Tryd.prog.types.size + Made.depth) 135 (.agg #[h]) "Implements").run Tryd.prog w = .ok (99, .agg #[h]) w := by kernel_rfl
theorem mAssign (h : Value) (w : World) : (Go.method (Tryd.prog.types.size + Made.depth) 135 (.agg #[h]) "AssignableTo").run Tryd.prog w = .ok (96, .agg #[h]) w := by kernel_rfl
theorem mComp (h : Value) (w : World) : (Go.method (Tryd.prog.types.size + Made.depth) 135 (.agg #[h]) "Comparable").run Tryd.prog w = .ok (97, .agg #[h]) w := by kernel_rfl
theorem kind99 (w : World) : (callFunc 86 #[.pointer (some ⟨1, 99, none⟩)]).run Tryd.prog w = .ok (.value (.int .u8 22)) w := by
  rw [@run_callFunc_extern Tryd.prog 86 _ (ReflectliteType.abiMethod fun t => do pure (.int .u8 (← Rtype.kind t))) Tryd.func86 (by kernel_rfl) (by kernel_rfl) (by kernel_rfl) (by kernel_rfl)]
  have h : (ReflectliteType.abiMethod (fun t => do pure (.int .u8 (← Rtype.kind t))) #[.pointer (some ⟨1, 99, none⟩)]).run Tryd.prog w = .ok (.int .u8 22) w := by kernel_rfl
  rw [h]
  rfl
theorem kind97 (w : World) : (callFunc 86 #[.pointer (some ⟨1, 97, none⟩)]).run Tryd.prog w = .ok (.value (.int .u8 22)) w := by
  rw [@run_callFunc_extern Tryd.prog 86 _ (ReflectliteType.abiMethod fun t => do pure (.int .u8 (← Rtype.kind t))) Tryd.func86 (by kernel_rfl) (by kernel_rfl) (by kernel_rfl) (by kernel_rfl)]
  have h : (ReflectliteType.abiMethod (fun t => do pure (.int .u8 (← Rtype.kind t))) #[.pointer (some ⟨1, 97, none⟩)]).run Tryd.prog w = .ok (.int .u8 22) w := by kernel_rfl
  rw [h]
  rfl
theorem elem99 (w : World) : (callFunc 98 #[hnd 99]).run Tryd.prog w = .ok (.value (types 97)) w := by
  rw [@run_callFunc_extern Tryd.prog 98 _ (ReflectliteType.method ReflectliteType.elem) Tryd.func98 (by kernel_rfl) (by kernel_rfl) (by kernel_rfl) (by kernel_rfl)]
  have h : (ReflectliteType.method ReflectliteType.elem #[hnd 99]).run Tryd.prog w = .ok (types 97) w := by kernel_rfl
  rw [h]
  rfl
theorem impl97 (w : World) : (callFunc 99 #[hnd 97, types 31]).run Tryd.prog w = .ok (.value (.bool true)) w := by
  rw [@run_callFunc_extern Tryd.prog 99 _ (ReflectliteType.relation "Implements" ReflectliteType.implements_) Tryd.func99 (by kernel_rfl) (by kernel_rfl) (by kernel_rfl) (by kernel_rfl)]
  have h : (ReflectliteType.relation "Implements" ReflectliteType.implements_ #[hnd 97, types 31]).run Tryd.prog w = .ok (.bool true) w := by kernel_rfl
  rw [h]
  rfl
theorem typeOf97 (v : Value) (w : World) : (callFunc 63 #[.iface 97 v]).run Tryd.prog w = .ok (.value (types 97)) w := by
  rw [@run_callFunc_extern Tryd.prog 63 _ ReflectliteType.typeOf Tryd.func63 (by kernel_rfl) (by kernel_rfl) (by kernel_rfl) (by kernel_rfl)]
  have h : (ReflectliteType.typeOf #[.iface 97 v]).run Tryd.prog w = .ok (types 97) w := by kernel_rfl
  rw [h]
  rfl
theorem typeOf34 (v : Value) (w : World) : (callFunc 63 #[.iface 34 v]).run Tryd.prog w = .ok (.value (types 34)) w := by
  rw [@run_callFunc_extern Tryd.prog 63 _ ReflectliteType.typeOf Tryd.func63 (by kernel_rfl) (by kernel_rfl) (by kernel_rfl) (by kernel_rfl)]
  have h : (ReflectliteType.typeOf #[.iface 34 v]).run Tryd.prog w = .ok (types 34) w := by kernel_rfl
  rw [h]
  rfl
theorem assign97 (w : World) : (callFunc 96 #[hnd 97, types 97]).run Tryd.prog w = .ok (.value (.bool true)) w := by
  rw [@run_callFunc_extern Tryd.prog 96 _ (ReflectliteType.relation "AssignableTo" ReflectliteType.assignableTo) Tryd.func96 (by kernel_rfl) (by kernel_rfl) (by kernel_rfl) (by kernel_rfl)]
  have h : (ReflectliteType.relation "AssignableTo" ReflectliteType.assignableTo #[hnd 97, types 97]).run Tryd.prog w = .ok (.bool true) w := by kernel_rfl
  rw [h]
  rfl
end Go.Proofs.YtejhdhmopiahhaaDoor
