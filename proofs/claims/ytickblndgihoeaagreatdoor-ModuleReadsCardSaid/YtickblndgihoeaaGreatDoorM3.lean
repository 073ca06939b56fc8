/- errors.As at a fault. -/
import Derived.Test.YtickblndgihoeaaGreatDoorM2
import Derived.Test.YtickblndgihoeaaGreatDoorM1
set_option linter.unusedSimpArgs false
namespace Go.Proofs.YtickblndgihoeaaGreatDoor
open Go Go.Sp Go.RowKit Go.Extern.Stop Go.Stop Go.Extern
theorem rls (v x : Value) : ReflectliteValue.set #[v,x] = (do
    let (some (dst,a,fl),some (src,b,_)) := (← ReflectliteValue.parts v,← ReflectliteValue.parts x)
      | unsupported (.noEntry "extern/(internal/reflectlite.Value).Set.zeroValue")
    if fl / ReflectliteValue.flagAddr % 2 == 0 then unsupported (.noEntry "extern/(internal/reflectlite.Value).Set.unaddressable")
    let val ← loadVar src b
    if ← Rtype.directlyAssignable dst src then storeVar dst a val
    else if ← Rtype.implements dst src then
      if (← Rtype.kind src) == 20 then
        match val with
        | .nilIface => unsupported (.noEntry "extern/reflectlite: a nil value of one interface type handed on as a value of another")
        | _ => storeVar dst a val
      else storeVar dst a (.iface src val)
    else panicString ("reflectlite.Set: value of type " ++ (← Rtype.spelt src) ++ " is not assignable to type " ++ (← Rtype.spelt dst))
    pure (.tuple #[])) := rfl
theorem elemV99 (a p : Addr) (w : World) (ha : w.cell? a = some (.pointer (some p))) : (callFunc 166 #[rv 152 a 150]).run Tryz.prog w = .ok (.value (rv 150 p 406)) w := by
  rw [@run_callFunc_extern Tryz.prog 166 _ (ReflectliteValue.method (ReflectliteValue.valueError "reflectlite.Value.Elem" 0) ReflectliteValue.elem) Tryz.func166 (by kernel_rfl) (by kernel_rfl) (by kernel_rfl) (by kernel_rfl)]
  have hp : (ReflectliteValue.parts (rv 152 a 150)).run Tryz.prog w = .ok (some (152,a,150)) w := by kernel_rfl
  have he : (Rtype.elem? 152).run Tryz.prog w = .ok (some 150) w := by kernel_rfl
  have hm : (ReflectliteValue.mk 150 p ReflectliteValue.flagAddr).run Tryz.prog w = .ok (rv 150 p 406) w := by kernel_rfl
  have h : (ReflectliteValue.method (ReflectliteValue.valueError "reflectlite.Value.Elem" 0) ReflectliteValue.elem #[rv 152 a 150]).run Tryz.prog w = .ok (rv 150 p 406) w := by
    rw [rlm]
    simp only [Sem.run_bind,hp,Result.andThen]
    simp [ReflectliteValue.elem,loadVar,isAgg,underlying,Tryz.underlying152,ha,Result.andThen,he,hm]
  rw [h]
  rfl
theorem set97 (g : Nat) (b : Addr) (e : Addr) (old : Value) (w : World) (hb : w.cell? b = some (.pointer (some e))) (hg : w.heap[g]? = some (.cells #[old] 150 (0,0))) :
    (callFunc 167 #[rv 150 ⟨g,0,none⟩ 406,rv 150 b 150]).run Tryz.prog w = .ok (.value (.tuple #[])) (Go.Sp.setObj w g (.cells #[.pointer (some e)] 150 (0,0))) := by
  rw [@run_callFunc_extern Tryz.prog 167 _ ReflectliteValue.set Tryz.func167 (by kernel_rfl) (by kernel_rfl) (by kernel_rfl) (by kernel_rfl)]
  have hp : (ReflectliteValue.parts (rv 150 ⟨g,0,none⟩ 406)).run Tryz.prog w = .ok (some (150,⟨g,0,none⟩,406)) w := by kernel_rfl
  have hp2 : (ReflectliteValue.parts (rv 150 b 150)).run Tryz.prog w = .ok (some (150,b,150)) w := by kernel_rfl
  have hd : (Rtype.directlyAssignable 150 150).run Tryz.prog w = .ok true w := by kernel_rfl
  have hs : (sizeOf 150).run Tryz.prog w = .ok 1 w := by kernel_rfl
  have hst := run_storeCell (P := Tryz.prog) hg (List.getElem?_eq_getElem (l := [old]) (i := 0) (by simp)) (v := .pointer (some e)) rfl
  have h : (ReflectliteValue.set #[rv 150 ⟨g,0,none⟩ 406,rv 150 b 150]).run Tryz.prog w = .ok (.tuple #[]) (Go.Sp.setObj w g (.cells #[.pointer (some e)] 150 (0,0))) := by
    rw [rls]
    simp only [Sem.run_bind,hp,hp2,Result.andThen]
    simp [ReflectliteValue.flagAddr,loadVar,isAgg,underlying,Tryz.underlying150,hb,Result.andThen,hd,storeVar,hs,Value.cells,storeCells,Addr.add]
    have hst2 : (store ⟨g,0,none⟩ (.pointer (some e))).run Tryz.prog w = .ok () (Go.Sp.setObj w g (.cells #[.pointer (some e)] 150 (0,0))) := by simpa using hst
    rw [hst2]
  rw [h]
  rfl
theorem comp34 (w : World) : (callFunc 205 #[hnd 30]).run Tryz.prog w = .ok (.value (.bool true)) w := by
  rw [@run_callFunc_extern Tryz.prog 205 _ (ReflectliteType.method fun t => do Rtype.noPackHeld "Comparable" t; pure (.bool (← typeInfo t).comparable)) Tryz.func205 (by kernel_rfl) (by kernel_rfl) (by kernel_rfl) (by kernel_rfl)]
  have h : (ReflectliteType.method (fun t => do Rtype.noPackHeld "Comparable" t; pure (.bool (← typeInfo t).comparable)) #[hnd 30]).run Tryz.prog w = .ok (.bool true) w := by kernel_rfl
  rw [h]
  rfl
end Go.Proofs.YtickblndgihoeaaGreatDoor

/- errors.As at a fault. -/
namespace Go.Proofs.YtickblndgihoeaaGreatDoor
open Go Go.Sp
section
variable {N : Nat} {rd : Option Nat} {E : Env} {D : List Deferred} {L : List HP} {Q : uF} {next : Env → List Deferred → List HP → Prop}
variable {d : Option Nat} {ty : TypeId} {pos : String} {after : Array Edge} {g : Option (Nat × Bool)}
theorem JO_set97 {v b : Nat} {e : Addr} {old : Value} {args : Array Operand} {ts : Array TypeId} {L' : Obj → List HP} {bt : TypeId} {fz : Nat × Nat} (hx : evs E args.toList = some [rv 150 ⟨v,0,none⟩ 406,rv 150 ⟨b,0,none⟩ 150])
    [hb : HB L b (.cells [.pointer (some e)].toArray bt fz)] [hw : WB L v (.cells [old].toArray 150 (0,0)) L'] (hd : dok N d = true) (h : next (put E d (.tuple #[])) D (L' (.cells #[.pointer (some e)] 150 (0,0)))) :
    JO Tryz.prog N rd ⟨d,.call ⟨.value (.func 167),args,ts⟩,ty,pos,after,g⟩ E D L next Q :=
  JO_value (fun c => by simp) hd fun F a w hrep hs => by
    obtain ⟨h1,h2⟩ := hw.h F w hs
    exact ⟨_,_,_,by rw [exec_fn hrep hx,set97 v ⟨b,0,none⟩ e old w (wB (h := hb) rfl F w hs) h1],h2 _,h⟩
end
theorem lds_one {L : List HP} {b : Nat} {v : Value} {bt : TypeId} {fz : Nat × Nat} [h : HB L b (.cells [v].toArray bt fz)] : Lds L ⟨b,0,none⟩ v := wB (h := h) rfl
attribute [local irreducible] callFunc Go.method J JL JO Ct JG JM JQ JQ0 JS CtD xB
set_option maxRecDepth 8000 in
set_option maxHeartbeats 8000000 in
theorem as_c (q v a : Nat) (old : Value) : Ct Tryz.prog 134 #[xH q,.iface 152 (ptr v),rv 152 ⟨a,0,none⟩ 150,types 150] [pt v (.cells #[old] 150 (0,0)),pt a (.cells #[ptr v] 152 (0,0))] (wF (.bool true) [pt v (.cells #[ptr q] 150 (0,0))]) := by
  refine yE (vs := [_,_,_,_]) Tryz.func134 rfl Tryz.ntmps134 (by simp) ?_
  repeat (first|(first|refine zB ?_|refine zE ?_|refine zG ?_|refine zK ?_)|(first|((first|refine zA rfl ?_);first|refine zC rfl rfl ?_|refine yN rfl rfl (fun r => ?_))))
  refine xU (β := Unit) (fun _ => [(0,xH q),(1,.iface 152 (ptr v)),(3,types 150),(6,ptr r)]) (fun _ => []) (fun _ => [pt r (.cells #[.pointer (some ⟨1,152,none⟩),.pointer (some ⟨a,0,none⟩),.int .u64 150] 224 (0,0)),pt v (.cells #[old] 150 (0,0)),pt a (.cells #[ptr v] 152 (0,0))]) (fun _ => 0) () ?_ rfl Ent.sel ?_
  · (repeat (first|exact zM _|refine zI rfl ?_))
  · intro _
    repeat (first|(first|refine zB ?_|refine zE ?_|refine zG ?_|refine zK ?_|refine zL rfl ?_|refine zV ?_)|(first|((first|refine zA rfl ?_);first|refine JOq (JQ_ext rfl (fun _ w _ => typeOf97 _ w)) rfl ?_|refine JOq (JQ_inv rfl rfl (mAssign _) (fun _ w _ => assign97 w)) rfl ?_|refine JOq (JQ_ext rfl (fun F w hs => elemV99 ⟨a,0,none⟩ ⟨v,0,none⟩ w (lds_one F w hs))) rfl ?_|refine JO_extA (v := fun n => rv 150 ⟨n,0,none⟩ 150) rfl (fun w => valueOf97 ⟨q,0,none⟩ w) rfl (fun b => ?_)|refine JO_set97 (v := v) (b := b) (e := ⟨q,0,none⟩) (old := old) rfl rfl ?_|refine zD rfl rfl ?_|refine zC rfl rfl ?_|refine zU rfl (by rfl) rfl ?_)))
    exact zY rfl rfl Ent.sel
set_option maxRecDepth 8000 in
set_option maxHeartbeats 8000000 in
theorem As_c (q v : Nat) (old : Value) (te : TypeId) (fz : Nat × Nat) : Ct Tryz.prog 81 #[xH q,.iface 152 (ptr v)] [pt v (.cells #[old] 150 (0,0)),ro 0 (.cells [types 43].toArray te fz)] (wF (.bool true) [pt v (.cells #[ptr q] 150 (0,0))]) := by
  refine yE (vs := [_,_]) Tryz.func81 rfl Tryz.ntmps81 (by simp) ?_
  repeat (first|(first|refine zB ?_|refine zE ?_|refine zG ?_|refine zP ?_|refine zJ rfl ?_)|(first|((first|refine zA rfl ?_);first|refine JOq (JQ_eqI1 rfl) rfl ?_|refine JO_extA (v := fun n => rv 152 ⟨n,0,none⟩ 150) rfl (fun w => valueOf99 ⟨v,0,none⟩ w) rfl (fun b => ?_)|refine zD rfl rfl ?_|refine zC rfl rfl ?_|refine zU rfl (by rfl) rfl ?_|refine zS rfl (fun r => ?_)|refine zO rfl rfl (by rfl) (by rfl) (by first | decide | simp [Value.oneCell']) rfl ?_)))
  repeat (first|(first|refine zB ?_|refine zE ?_|refine zG ?_|refine zP ?_|refine zJ rfl ?_|refine zV ?_)|(first|((first|refine zA rfl ?_|refine zZ rfl rfl ?_);first|refine JOq (JQ_ext rfl (fun _ w _ => type99 ⟨b,0,none⟩ w)) rfl ?_|refine JOq (JQ_inv rfl rfl (mKind _) (fun _ w _ => kind99 w)) rfl ?_|refine JOq (JQ_inv rfl rfl (mKind _) (fun _ w _ => kind97 w)) rfl ?_|refine JOq (JQ_ext rfl (fun F w hs => isNil99 ⟨b,0,none⟩ ⟨v,0,none⟩ w (lds_one F w hs))) rfl ?_|refine JOq (JQ_inv rfl rfl (mElem _) (fun _ w _ => elem99 w)) rfl ?_|refine JOq (JQ_inv rfl rfl (mImpl _) (fun _ w _ => impl97 w)) rfl ?_|refine wU rfl lds_one rfl ?_|refine zD rfl rfl ?_|refine zC rfl rfl ?_|refine zU rfl (by rfl) rfl ?_|refine yA rfl rfl rfl ?_|refine yJ rfl rfl rfl ?_|refine JO_neI rfl rfl rfl ?_|refine xD rfl rfl ?_|refine zN rfl (as_c q v b old) rfl ?_)))
  exact zY rfl rfl Ent.sel
end Go.Proofs.YtickblndgihoeaaGreatDoor

/- errors.Is at a fault. -/
namespace Go.Proofs.YtickblndgihoeaaGreatDoor
open Go Go.Sp Go.Stop
section
variable {P : Program} {N : Nat} {rd : Option Nat} {E : Env} {D : List Deferred} {L : List HP} {Q : uF} {next : Env → List Deferred → List HP → Prop}
variable {d : Option Nat} {ty : TypeId} {pos : String} {after : Array Edge} {g : Option (Nat × Bool)}
theorem JQ_assertK {x : Operand} {xt t : TypeId} {v u : Value} (hx : ev E x = some v) (h : ∀ w,(Instr.typeAssert v xt t true).run P w = .ok u w) : JQ P N ⟨d,.typeAssert x xt t true,ty,pos,after,g⟩ E D L u := fun F a hr w hs => by
  simp [execOp,hr.eval hx,h]
theorem JQ_eqK {x y : Operand} {t u : TypeId} {v1 v2 : Value} {r : Bool} (hx : ev E x = some v1) (hy : ev E y = some v2) (hg : ∀ w,(eqGuard .eql t x y v1 v2).run P w = .ok () w) (h : ∀ w,(binOp .eql t v1 v2).run P w = .ok (.bool r) w) : JQ P N ⟨d,.binOp .eql t x y u,ty,pos,after,g⟩ E D L (.bool r) := fun F a hr w hs => by
  have e : execOp a.eval ⟨d,.binOp .eql t x y u,ty,pos,after,g⟩ = (do let r ← (do eqGuard .eql t x y (a.eval x) (a.eval y);binOp .eql t (a.eval x) (a.eval y));pure (Next.value r)) := rfl
  rw [e,hr.eval hx,hr.eval hy]
  simp only [Sem.run_bind,hg,h,Result.andThen_ok,Sem.run_pure]
end
theorem ne9734 (v w' : Value) (w : World) : (binOp .eql 43 (.iface 150 v) (.iface 30 w')).run Tryz.prog w = .ok (.bool false) w := by
  have h : (Op.equal 43 (.iface 150 v) (.iface 30 w')).run Tryz.prog w = .ok false w := by
    unfold Op.equal
    rw [show Op.maxDepth = 9999 + 1 from rfl]
    unfold Op.equalIn
    simp [yM (TU.h (P := Tryz.prog) (t := 43))]
  have e : binOp .eql 43 (.iface 150 v) (.iface 30 w') = (do pure (Value.bool (← Op.equal 43 (.iface 150 v) (.iface 30 w')))) := rfl
  rw [e]
  simp only [Sem.run_bind,h,Result.andThen_ok,Sem.run_pure]
theorem eq34 (c : Int) (w : World) : (binOp .eql 43 (.iface 30 (.int .i64 c)) (.iface 30 (.int .i64 c))).run Tryz.prog w = .ok (.bool true) w := by
  obtain ⟨i,h2,h3⟩ : ∃ i,(∀ w,(typeInfo 30).run Tryz.prog w = .ok i w) ∧ i.comparable = true := ⟨Tryz.prog.types[30]!,fun w => by kernel_rfl,by kernel_rfl⟩
  have h4 : (Op.equalIn (9998 + 1) 30 (.int .i64 c) (.int .i64 c)).run Tryz.prog w = .ok true w := by
    unfold Op.equalIn
    simp [yM (TU.h (P := Tryz.prog) (t := 30))]
  have h : (Op.equal 43 (.iface 30 (.int .i64 c)) (.iface 30 (.int .i64 c))).run Tryz.prog w = .ok true w := by
    unfold Op.equal
    rw [show Op.maxDepth = (9998 + 1) + 1 from rfl]
    unfold Op.equalIn
    simp [yM (TU.h (P := Tryz.prog) (t := 43)),h2,h3]
    exact h4
  have e : binOp .eql 43 (.iface 30 (.int .i64 c)) (.iface 30 (.int .i64 c)) = (do pure (Value.bool (← Op.equal 43 (.iface 30 (.int .i64 c)) (.iface 30 (.int .i64 c))))) := rfl
  rw [e]
  simp only [Sem.run_bind,h,Result.andThen_ok,Sem.run_pure]
theorem noIs (v : Value) (x : TypeId) (w : World) : (Instr.typeAssert (.iface 150 v) x 199 true).run Tryz.prog w = .ok (.tuple #[.nilIface,.bool false]) w := run_typeAssert_lacksB Tryz.underlying199 (by kernel_rfl) (by kernel_rfl) v x w
theorem hasUnwrap (q : Nat) (w : World) : (Instr.typeAssert (xH q) 43 202 true).run Tryz.prog w = .ok (.tuple [xH q,.bool true].toArray) w := by kernel_rfl
theorem mUnwrap (q : Nat) (w : World) : (Go.method (Tryz.prog.types.size + Made.depth) 150 (ptr q) "Unwrap").run Tryz.prog w = .ok (202, ptr q) w := by kernel_rfl
attribute [local irreducible] callFunc Go.method J JL JO Ct JG JM JQ JQ0 JS CtD xB
theorem unwrap_c (q : Nat) (code at_ : Int) : Ct Tryz.prog 202 #[ptr q] [Ft q code at_] (wF (.iface 30 (.int .i64 code)) [Ft q code at_]) := by
  refine yE (vs := [_]) Tryz.func202 rfl Tryz.ntmps202 (by simp) ?_
  repeat (first|(first|refine zB ?_|refine zE ?_|refine zG ?_|refine zV ?_)|(first|((first|refine zA rfl ?_);first|refine JOq (yQ rfl) rfl ?_|refine zD rfl rfl ?_|refine zC rfl rfl ?_|refine zF rfl rfl ?_|refine zH rfl rfl ?_|refine vD (by simp) rfl rfl ?_)))
  exact zY rfl rfl Ent.sel
end Go.Proofs.YtickblndgihoeaaGreatDoor

/- errors.Is at a fault;the law's 'told'. -/
namespace Go.Proofs.YtickblndgihoeaaGreatDoor
open Go Go.Sp Go.Stop
attribute [local irreducible] callFunc Go.method J JL JO Ct JG JM JQ JQ0 JS CtD xB
abbrev errno (c : Int) : Value := .iface 30 (.int .i64 c)
set_option maxRecDepth 8000 in
set_option maxHeartbeats 8000000 in
theorem is_c (q : Nat) (code at_ : Int) : Ct Tryz.prog 63 #[xH q,errno code,.bool true] [Ft q code at_] (wF (.bool true) [Ft q code at_]) := by
  refine yE (vs := [_,_,_]) Tryz.func63 rfl Tryz.ntmps63 (by simp) ?_
  repeat (first|(first|refine zB ?_|refine zE ?_|refine zG ?_|refine zK ?_)|(first|((first|refine zA rfl ?_);first|refine zC rfl rfl ?_)))
  refine xU (β := Bool) (fun x => [(0,match x with | false => xH q | true => errno code),(1,errno code),(2,.bool true)]) (fun _ => []) (fun _ => [Ft q code at_]) (fun x => match x with | false => 1 | true => 0) false ?_ rfl Ent.sel ?_
  · (repeat (first|exact zM _|refine zI rfl ?_))
  · rintro (_ | _)
    · dsimp only
      repeat (first|(first|refine zB ?_|refine zE ?_|refine zG ?_|refine zK ?_|refine zP ?_|refine zL rfl ?_|refine zJ rfl ?_)|(first|((first|refine zA rfl ?_|refine zZ rfl rfl ?_);first|refine JOq (JQ_eqK rfl rfl (fun _ => rfl) (ne9734 _ _)) rfl ?_|refine JOq (JQ_assertK rfl (noIs _ _)) rfl ?_|refine JOq (JQ_assertK rfl (hasUnwrap _)) rfl ?_|refine JO_invV rfl rfl (mUnwrap q) (unwrap_c q code at_) rfl ?_|refine JOq (JQ_eqI1 rfl) rfl ?_|refine zD rfl rfl ?_|refine zC rfl rfl ?_|refine yA rfl rfl rfl ?_|refine yJ rfl rfl rfl ?_|refine zT rfl rfl rfl ?_)|refine yU rfl rfl rfl ?_))
      exact ⟨true,by simp,by (repeat (first|exact zM _|refine zI rfl ?_)),rfl,Ent.sel⟩
    · dsimp only
      repeat (first|(first|refine zB ?_|refine zE ?_|refine zG ?_|refine zK ?_|refine zL rfl ?_|refine zV ?_)|(first|((first|refine zA rfl ?_|refine zZ rfl rfl ?_);first|refine JOq (JQ_eqK rfl rfl (fun _ => rfl) (eq34 _)) rfl ?_|refine zD rfl rfl ?_|refine zC rfl rfl ?_|refine yA rfl rfl rfl ?_)))
      exact zY rfl rfl Ent.sel
set_option maxRecDepth 8000 in
set_option maxHeartbeats 8000000 in
theorem Is_c (q : Nat) (code at_ : Int) : Ct Tryz.prog 22 #[xH q,errno code] [Ft q code at_] (wF (.bool true) [Ft q code at_]) := by
  refine yE (vs := [_,_]) Tryz.func22 rfl Tryz.ntmps22 (by simp) ?_
  repeat (first|(first|refine zB ?_|refine zE ?_|refine zG ?_|refine zP ?_|refine zJ rfl ?_|refine zV ?_)|(first|((first|refine zA rfl ?_|refine zZ rfl rfl ?_);first|refine JOq (JQ_eqI1 rfl) rfl ?_|refine JOq (JQ_ext rfl (fun _ w _ => typeOf34 _ w)) rfl ?_|refine JOq (JQ_inv rfl rfl (mComp _) (fun _ w _ => comp34 w)) rfl ?_|refine zD rfl rfl ?_|refine zC rfl rfl ?_|refine yJ rfl rfl rfl ?_|refine zN rfl (is_c q code at_) rfl ?_)))
  exact zY rfl rfl Ent.sel
theorem told_none : Ct Tryz.prog 32 #[.nilIface,uC 0 0] [] (wF (.bool true) []) := by
  refine yE (vs := [_,_]) Tryz.func32 rfl Tryz.ntmps32 (by simp) ?_
  repeat (first|(first|refine zB ?_|refine zE ?_|refine zG ?_|refine zL rfl ?_|refine zV ?_)|(first|((first|refine zA rfl ?_|refine zZ rfl rfl ?_);first|refine JOq (JQ_eqI0 rfl) rfl ?_|refine zD rfl rfl ?_|refine zC rfl rfl ?_|refine zF rfl rfl ?_|refine zH rfl rfl ?_|refine yA rfl rfl rfl ?_|refine JO_eqI rfl rfl rfl ?_|refine yN rfl rfl (fun r => ?_))|refine yU rfl rfl rfl ?_))
  exact zY rfl rfl Ent.sel
end Go.Proofs.YtickblndgihoeaaGreatDoor
