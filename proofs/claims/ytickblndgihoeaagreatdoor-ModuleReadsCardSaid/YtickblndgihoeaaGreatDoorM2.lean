/- errors.As and errors.Is at a fault: what the model's entries say (after the worked proof ToyasAs.lean). -/
import Derived.Test.YtickblndgihoeaaGreatDoorM1
import Derived.WalkKit
import Derived.Stop.Asserts
namespace Go.Proofs.YtickblndgihoeaaGreatDoor
open Go Go.Sp Go.RowKit Go.Extern.Stop Go.Stop Go.Extern
abbrev hnd (t : Nat) : Value := .agg #[.pointer (some ⟨1,t,none⟩)]
abbrev rv (t : Nat) (a : Addr) (fl : Int) : Value := .agg #[.pointer (some ⟨1,t,none⟩),.pointer (some a),.int .u64 fl]
abbrev types (t : Nat) : Value := .iface 197 (hnd t)
theorem rlm (z : Sem Value) (f : TypeId → Addr → Nat → Nat → Sem Value) (v : Value) :
    ReflectliteValue.method z f #[v] = (do match ← ReflectliteValue.parts v with | none => z | some (t,a,fl) => f t a fl (fl % 32)) := rfl
theorem valueOf99 (t : Addr) (w : World) : (callFunc 131 #[.iface 152 (.pointer (some t))]).run Tryz.prog w = .ok (.value (rv 152 ⟨w.heap.size,0,none⟩ 150)) (w.alloc (.cells #[.pointer (some t)] 152)) := by
  rw [@run_callFunc_extern Tryz.prog 131 _ (fun args => ReflectliteValue.unpack (args.getD 0 (.tuple #[]))) Tryz.func131 (by kernel_rfl) (by kernel_rfl) (by kernel_rfl) (by kernel_rfl)]
  have h : (ReflectliteValue.unpack (.iface 152 (.pointer (some t)))).run Tryz.prog w = .ok (rv 152 ⟨w.heap.size,0,none⟩ 150) (w.alloc (.cells #[.pointer (some t)] 152)) := by kernel_rfl
  show ((ReflectliteValue.unpack (.iface 152 (.pointer (some t)))).run Tryz.prog w).andThen _ = _
  rw [h]
  rfl
theorem valueOf97 (t : Addr) (w : World) : (callFunc 131 #[.iface 150 (.pointer (some t))]).run Tryz.prog w = .ok (.value (rv 150 ⟨w.heap.size,0,none⟩ 150)) (w.alloc (.cells #[.pointer (some t)] 150)) := by
  rw [@run_callFunc_extern Tryz.prog 131 _ (fun args => ReflectliteValue.unpack (args.getD 0 (.tuple #[]))) Tryz.func131 (by kernel_rfl) (by kernel_rfl) (by kernel_rfl) (by kernel_rfl)]
  have h : (ReflectliteValue.unpack (.iface 150 (.pointer (some t)))).run Tryz.prog w = .ok (rv 150 ⟨w.heap.size,0,none⟩ 150) (w.alloc (.cells #[.pointer (some t)] 150)) := by kernel_rfl
  show ((ReflectliteValue.unpack (.iface 150 (.pointer (some t)))).run Tryz.prog w).andThen _ = _
  rw [h]
  rfl
theorem type99 (a : Addr) (w : World) : (callFunc 132 #[rv 152 a 150]).run Tryz.prog w = .ok (.value (types 152)) w := by
  rw [@run_callFunc_extern Tryz.prog 132 _ (ReflectliteValue.methodAny (ReflectliteValue.valueError "reflectlite.Value.Type" 0) (fun t _ _ _ => ReflectliteType.toType t)) Tryz.func132 (by kernel_rfl) (by kernel_rfl) (by kernel_rfl) (by kernel_rfl)]
  have h : (ReflectliteValue.methodAny (ReflectliteValue.valueError "reflectlite.Value.Type" 0) (fun t _ _ _ => ReflectliteType.toType t) #[rv 152 a 150]).run Tryz.prog w = .ok (types 152) w := by kernel_rfl
  rw [h]
  rfl
theorem isNil99 (a p : Addr) (w : World) (ha : w.cell? a = some (.pointer (some p))) : (callFunc 133 #[rv 152 a 150]).run Tryz.prog w = .ok (.value (.bool false)) w := by
  rw [@run_callFunc_extern Tryz.prog 133 _ (ReflectliteValue.method (ReflectliteValue.valueError "reflectlite.Value.IsNil" 0) ReflectliteValue.isNil) Tryz.func133 (by kernel_rfl) (by kernel_rfl) (by kernel_rfl) (by kernel_rfl)]
  have hp : (ReflectliteValue.parts (rv 152 a 150)).run Tryz.prog w = .ok (some (152,a,150)) w := by kernel_rfl
  have h : (ReflectliteValue.method (ReflectliteValue.valueError "reflectlite.Value.IsNil" 0) ReflectliteValue.isNil #[rv 152 a 150]).run Tryz.prog w = .ok (.bool false) w := by
    rw [rlm]
    simp only [Sem.run_bind,hp,Result.andThen]
    simp [ReflectliteValue.isNil,loadVar,isAgg,underlying,Tryz.underlying152,ha,Result.andThen]
  rw [h]
  rfl
theorem mKind (h : Value) (w : World) : (Go.method (Tryz.prog.types.size + Made.depth) 197 (.agg #[h]) "Kind").run Tryz.prog w = .ok (197, h) w := by kernel_rfl
theorem mElem (h : Value) (w : World) : (Go.method (Tryz.prog.types.size + Made.depth) 197 (.agg #[h]) "Elem").run Tryz.prog w = .ok (206, .agg #[h]) w := by kernel_rfl
theorem mImpl (h : Value) (w : World) : (Go.method (Tryz.prog.types.size + Made.depth) 197 (.agg #[h]) "Implements").run Tryz.prog w = .ok (207, .agg #[h]) w := by kernel_rfl
theorem mAssign (h : Value) (w : World) : (Go.method (Tryz.prog.types.size + Made.depth) 197 (.agg #[h]) "AssignableTo").run Tryz.prog w = .ok (204, .agg #[h]) w := by kernel_rfl
theorem mComp (h : Value) (w : World) : (Go.method (Tryz.prog.types.size + Made.depth) 197 (.agg #[h]) "Comparable").run Tryz.prog w = .ok (205, .agg #[h]) w := by kernel_rfl
theorem kind99 (w : World) : (callFunc 197 #[.pointer (some ⟨1,152,none⟩)]).run Tryz.prog w = .ok (.value (.int .u8 22)) w := by
  rw [@run_callFunc_extern Tryz.prog 197 _ (ReflectliteType.abiMethod fun t => do pure (.int .u8 (← Rtype.kind t))) Tryz.func197 (by kernel_rfl) (by kernel_rfl) (by kernel_rfl) (by kernel_rfl)]
  have h : (ReflectliteType.abiMethod (fun t => do pure (.int .u8 (← Rtype.kind t))) #[.pointer (some ⟨1,152,none⟩)]).run Tryz.prog w = .ok (.int .u8 22) w := by kernel_rfl
  rw [h]
  rfl
theorem kind97 (w : World) : (callFunc 197 #[.pointer (some ⟨1,150,none⟩)]).run Tryz.prog w = .ok (.value (.int .u8 22)) w := by
  rw [@run_callFunc_extern Tryz.prog 197 _ (ReflectliteType.abiMethod fun t => do pure (.int .u8 (← Rtype.kind t))) Tryz.func197 (by kernel_rfl) (by kernel_rfl) (by kernel_rfl) (by kernel_rfl)]
  have h : (ReflectliteType.abiMethod (fun t => do pure (.int .u8 (← Rtype.kind t))) #[.pointer (some ⟨1,150,none⟩)]).run Tryz.prog w = .ok (.int .u8 22) w := by kernel_rfl
  rw [h]
  rfl
theorem elem99 (w : World) : (callFunc 206 #[hnd 152]).run Tryz.prog w = .ok (.value (types 150)) w := by
  rw [@run_callFunc_extern Tryz.prog 206 _ (ReflectliteType.method ReflectliteType.elem) Tryz.func206 (by kernel_rfl) (by kernel_rfl) (by kernel_rfl) (by kernel_rfl)]
  have h : (ReflectliteType.method ReflectliteType.elem #[hnd 152]).run Tryz.prog w = .ok (types 150) w := by kernel_rfl
  rw [h]
  rfl
theorem impl97 (w : World) : (callFunc 207 #[hnd 150,types 43]).run Tryz.prog w = .ok (.value (.bool true)) w := by
  rw [@run_callFunc_extern Tryz.prog 207 _ (ReflectliteType.relation "Implements" ReflectliteType.implements_) Tryz.func207 (by kernel_rfl) (by kernel_rfl) (by kernel_rfl) (by kernel_rfl)]
  have h : (ReflectliteType.relation "Implements" ReflectliteType.implements_ #[hnd 150, types 43]).run Tryz.prog w = .ok (.bool true) w := by kernel_rfl
  rw [h]
  rfl
theorem typeOf97 (v : Value) (w : World) : (callFunc 62 #[.iface 150 v]).run Tryz.prog w = .ok (.value (types 150)) w := by
  rw [@run_callFunc_extern Tryz.prog 62 _ ReflectliteType.typeOf Tryz.func62 (by kernel_rfl) (by kernel_rfl) (by kernel_rfl) (by kernel_rfl)]
  have h : (ReflectliteType.typeOf #[.iface 150 v]).run Tryz.prog w = .ok (types 150) w := by kernel_rfl
  rw [h]
  rfl
theorem typeOf34 (v : Value) (w : World) : (callFunc 62 #[.iface 30 v]).run Tryz.prog w = .ok (.value (types 30)) w := by
  rw [@run_callFunc_extern Tryz.prog 62 _ ReflectliteType.typeOf Tryz.func62 (by kernel_rfl) (by kernel_rfl) (by kernel_rfl) (by kernel_rfl)]
  have h : (ReflectliteType.typeOf #[.iface 30 v]).run Tryz.prog w = .ok (types 30) w := by kernel_rfl
  rw [h]
  rfl
theorem assign97 (w : World) : (callFunc 204 #[hnd 150,types 150]).run Tryz.prog w = .ok (.value (.bool true)) w := by
  rw [@run_callFunc_extern Tryz.prog 204 _ (ReflectliteType.relation "AssignableTo" ReflectliteType.assignableTo) Tryz.func204 (by kernel_rfl) (by kernel_rfl) (by kernel_rfl) (by kernel_rfl)]
  have h : (ReflectliteType.relation "AssignableTo" ReflectliteType.assignableTo #[hnd 150, types 150]).run Tryz.prog w = .ok (.bool true) w := by kernel_rfl
  rw [h]
  rfl
end Go.Proofs.YtickblndgihoeaaGreatDoor
