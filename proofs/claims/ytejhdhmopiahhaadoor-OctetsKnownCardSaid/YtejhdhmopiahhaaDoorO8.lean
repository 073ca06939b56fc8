/- errors.As at a fault. -/
import Derived.Test.YtejhdhmopiahhaaDoorO7
import Derived.Test.YtejhdhmopiahhaaDoorSp26
namespace Go.Proofs.YtejhdhmopiahhaaDoor
open Go Go.Sp Go.RowKit Go.Extern.Stop Go.Stop Go.Extern
theorem rls (v x : Value) : ReflectliteValue.set #[v, x] = (do
    let (some (dst, a, fl), some (src, b, _)) := (← ReflectliteValue.parts v, ← ReflectliteValue.parts x)
      | unsupported (.noEntry "extern/(internal/reflectlite.Value).Set.zeroValue")
    if fl / ReflectliteValue.flagAddr % 2 == 0 then unsupported (.noEntry "extern/(internal/reflectlite.Value).Set.unaddressable")
    let val ← loadVar src b
    if ← Rtype.directlyAssignable dst src then storeVar dst a val
    else if ← Rtype.implements dst src then
      if (← Rtype.kind src) == 20 then
        match val with
        | .nilIface => unsupported (.noEntry "extern/reflectlite: a nil value of one interface type handed on as a value of another")
        | _ => storeVar dst a val
      else storeVar dst a (.iface src val)
    else panicString ("reflectlite.Set: value of type " ++ (← Rtype.spelt src) ++ " is not assignable to type " ++ (← Rtype.spelt dst))
    pure (.tuple #[])) := rfl
theorem elemV99 (a p : Addr) (w : World) (ha : w.cell? a = some (.pointer (some p))) : (callFunc 70 #[rv 99 a 150]).run Tryd.prog w = .ok (.value (rv 97 p 406)) w := by
  rw [@run_callFunc_extern Tryd.prog 70 _ (ReflectliteValue.method (ReflectliteValue.valueError "reflectlite.Value.Elem" 0) ReflectliteValue.elem) Tryd.func70 (by kernel_rfl) (by kernel_rfl) (by kernel_rfl) (by kernel_rfl)]
  have hp : (ReflectliteValue.parts (rv 99 a 150)).run Tryd.prog w = .ok (some (99, a, 150)) w := by kernel_rfl
  have he : (Rtype.elem? 99).run Tryd.prog w = .ok (some 97) w := by kernel_rfl
  have hm : (ReflectliteValue.mk 97 p ReflectliteValue.flagAddr).run Tryd.prog w = .ok (rv 97 p 406) w := by kernel_rfl
  have h : (ReflectliteValue.method (ReflectliteValue.valueError "reflectlite.Value.Elem" 0) ReflectliteValue.elem #[rv 99 a 150]).run Tryd.prog w = .ok (rv 97 p 406) w := by
    rw [rlm]
    simp only [Sem.run_bind, hp, Result.andThen]
    simp [ReflectliteValue.elem, loadVar, isAgg, underlying, Tryd.underlying99, ha, Result.andThen, he, hm]
  rw [h]
  rfl
theorem set97 (g : Nat) (b : Addr) (e : Addr) (old : Value) (w : World) (hb : w.cell? b = some (.pointer (some e))) (hg : w.heap[g]? = some (.cells #[old] 97 (0, 0))) :
    (callFunc 71 #[rv 97 ⟨g, 0, none⟩ 406, rv 97 b 150]).run Tryd.prog w = .ok (.value (.tuple #[])) (Go.Sp.setObj w g (.cells #[.pointer (some e)] 97 (0, 0))) := by
  rw [@run_callFunc_extern Tryd.prog 71 _ ReflectliteValue.set Tryd.func71 (by kernel_rfl) (by kernel_rfl) (by kernel_rfl) (by kernel_rfl)]
  have hp : (ReflectliteValue.parts (rv 97 ⟨g, 0, none⟩ 406)).run Tryd.prog w = .ok (some (97, ⟨g, 0, none⟩, 406)) w := by kernel_rfl
  have hp2 : (ReflectliteValue.parts (rv 97 b 150)).run Tryd.prog w = .ok (some (97, b, 150)) w := by kernel_rfl
  have hd : (Rtype.directlyAssignable 97 97).run Tryd.prog w = .ok true w := by kernel_rfl
  have hs : (sizeOf 97).run Tryd.prog w = .ok 1 w := by kernel_rfl
  have hst := run_storeCell (P := Tryd.prog) hg (List.getElem?_eq_getElem (l := [old]) (i := 0) (by simp)) (v := .pointer (some e)) rfl
  have h : (ReflectliteValue.set #[rv 97 ⟨g, 0, none⟩ 406, rv 97 b 150]).run Tryd.prog w = .ok (.tuple #[]) (Go.Sp.setObj w g (.cells #[.pointer (some e)] 97 (0, 0))) := by
    rw [rls]
    simp only [Sem.run_bind, hp, hp2, Result.andThen]
    simp [ReflectliteValue.flagAddr, loadVar, isAgg, underlying, Tryd.underlying97, hb, Result.andThen, hd, storeVar, hs, Value.cells, storeCells, Addr.add]
    have hst2 : (store ⟨g, 0, none⟩ (.pointer (some e))).run Tryd.prog w = .ok () (Go.Sp.setObj w g (.cells #[.pointer (some e)] 97 (0, 0))) := by simpa using hst
    rw [hst2]
  rw [h]
  rfl
theorem comp34 (w : World) : (callFunc 97 #[hnd 34]).run Tryd.prog w = .ok (.value (.bool true)) w := by
  rw [@run_callFunc_extern Tryd.prog 97 _ (ReflectliteType.method fun t => do Rtype.noPackHeld "Comparable" t; pure (.bool (← typeInfo t).comparable)) Tryd.func97 (by kernel_rfl) (by kernel_rfl) (by kernel_rfl) (by kernel_rfl)]
  have h : (ReflectliteType.method (fun t => do Rtype.noPackHeld "Comparable" t; pure (.bool (← typeInfo t).comparable)) #[hnd 34]).run Tryd.prog w = .ok (.bool true) w := by kernel_rfl
  rw [h]
  rfl
end Go.Proofs.YtejhdhmopiahhaaDoor
