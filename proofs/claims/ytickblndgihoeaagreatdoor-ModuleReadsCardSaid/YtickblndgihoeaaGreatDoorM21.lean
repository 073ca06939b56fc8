/- Layer 11: what ends laying; a module's bytes. -/
import Derived.Test.YtickblndgihoeaaGreatDoorM20
set_option linter.unusedSimpArgs false
namespace Go.Proofs.YtickblndgihoeaaGreatDoor
open Go Go.Sp Go.Stop
def TextP (o : OB) (K : List HP) : Ending → List HP → Prop := fun e L => match o with
  | some bs => e = .returned (str bs) ∧ L = K
  | none => e = .panicked [{ v := stopA,recovered := false }] ∧ L = []
section
variable {N : Nat} {rd : Option Nat} {E : Env} {D : List Deferred} {L : List HP} {Q : uF} {next : Env → List Deferred → List HP → Prop}
variable {d : Option Nat} {ty : TypeId} {pos : String} {after : Array Edge} {g : Option (Nat × Bool)}
theorem JO_callT {o : OB} {K M L1 : List HP} {f : FuncId} [hf : CF Tryz.prog f] {args : Array Operand} {ts : Array TypeId} {vs : List Value} (hx : evs E args.toList = some vs)
    (hc : Ct Tryz.prog f vs.toArray K (TextP o K)) [hs : Sel K L M] [ha : AppH K M L1] (hd : dok N d = true) (hv : ∀ bs,o = some bs → next (put E d (str bs)) D L1)
    (hn : o = none → Q (.panic [{ v := stopA,recovered := false }]) E D M) : JO Tryz.prog N rd ⟨d,.call ⟨.value (.func f),args,ts⟩,ty,pos,after,g⟩ E D L next Q :=
  JO_call hx hc.use hd
    (fun _ _ ⟨_,h,hL'⟩ => by
      cases o with
      | none => exact absurd h.1 (by simp)
      | some bs => obtain ⟨he,hL⟩ := h;cases he;rw [hL',hL,ha.h];exact hv bs rfl)
    (fun _ _ ⟨_,h,hL'⟩ => by
      cases o with
      | some bs => exact absurd h.1 (by simp)
      | none => obtain ⟨he,hL⟩ := h;cases he;rw [hL',hL];exact hn rfl)
variable {o : OB} {fn : Func} {P : Program} {K : List HP} {bs : List UInt8}
theorem textP_no (h : o = none) : ([] : List Deferred) = [] ∧ ∃ L',Ent L L' ∧ TextP o K (.panicked [{ v := stopA,recovered := false }]) L' := ⟨rfl,[],Ent.nil,by rw [h];exact ⟨rfl,rfl⟩⟩
theorem textP_ret {t : Nat} (hr : fn.results = #[.tmp t]) (hv : Env.get E t = some (str bs)) (h : o = some bs) (he : Ent L K) : bodyQ P N fn (fun e L => ∃ L',Ent L L' ∧ TextP o K e L') .ret E [] L :=
  ⟨rfl,_,res_one hr hv,K,he,by rw [h];exact ⟨rfl,rfl⟩⟩
end
attribute [local irreducible] callFunc Go.method J JL JO JR JR1 JRl Ct JG JM JM1 JW JW1 JQ JQ0 JS CtD xB WrB by8 wK Emp xV wH ints chkA tJ CodH MdH uK yB
theorem text11_c {f : FuncId} [CF Tryz.prog f] (fs cs : List Value) (A : HP) (o : OB) (h : ∀ w,Ct Tryz.prog f (fs ++ [lay w] ++ cs).toArray [WrB w [],A] (OutP o w [] [A])) :
    Ct Tryz.prog 50 #[.func (.func f) fs.toArray cs.toArray] [A] (TextP o [A]) := by
  refine yE (vs := [_]) Tryz.func50 rfl Tryz.ntmps50 (by simp) ?_
  repeat (first|(first|refine zB ?_|refine zE ?_|refine zG ?_)|(first|((first|refine zA rfl ?_);first|refine yK rfl newwriter_B rfl (fun w _ => ?_)|refine yG (cs := [ptr w]) rfl rfl rfl ?_|refine zO rfl rfl (by rfl) (by rfl) (by simp [Value.oneCell']) rfl ?_|refine zD rfl rfl ?_|refine zC rfl rfl ?_|refine zU rfl (by rfl) rfl ?_|refine zS rfl (fun r => ?_))))
  refine zA rfl (JO_callCO rfl rfl (h w) rfl (fun b1 g1 => ?_) (fun g1 => textP_no g1))
  have ht := wtext_B w ([] ++ b1)
  repeat (first|(first|refine zB ?_|refine zE ?_|refine zG ?_|refine zV ?_)|(first|((first|refine zA rfl ?_);first|refine zC rfl rfl ?_|refine zF rfl rfl ?_|refine zH rfl rfl ?_|refine zN rfl (ht) rfl ?_)))
  exact textP_ret rfl rfl (by rw [g1];simp) Ent.sel
theorem until_r (e : Nat) : CtD Tryz.prog 49 #[ptr e] .returning [] (fun en u L => en = .returned (.tuple #[]) ∧ u = .returning ∧ L = []) := by
  refine fn_bodyS (vs := [_]) Tryz.func49 rfl Tryz.ntmps49 (by simp) ?_
  refine JS_seq (JS_recover1 rfl ?_)
  refine JS_of_J ?_
  repeat (first|(first|refine zB ?_|refine zE ?_|refine zG ?_|refine zK ?_|refine zL rfl ?_)|(first|((first|refine zA rfl ?_);first|refine JOq (JQ_eqI0 rfl) rfl ?_|refine zC rfl rfl ?_)))
  exact ⟨rfl,_,res_none rfl,rfl,rfl,rfl⟩
theorem until_p (e : Nat) (v : Value) (hv : v.oneCell' = true) : CtD Tryz.prog 49 #[ptr e] (.panicking [{ v := stopV v,recovered := false }]) [pt e (.cells #[.nilIface] 43 (0,0))]
    (fun en u L => en = .returned (.tuple #[]) ∧ settle u = .returning ∧ ∃ r,L = [pt r (.cells #[v] 184 (0,0)),pt e (.cells #[v] 43 (0,0))]) := by
  refine fn_bodyS (vs := [_]) Tryz.func49 rfl Tryz.ntmps49 (by simp) ?_
  refine JS_seq (JS_recover1 rfl ?_)
  refine JS_of_J ?_
  repeat (first|(first|refine zB ?_|refine zE ?_|refine zG ?_|refine zK ?_|refine zL rfl ?_|refine zJ rfl ?_)|(first|((first|refine zA rfl ?_);first|refine JOq (JQ_eqI1 rfl) rfl ?_|refine JOq (JQ_assertT (by simp) rfl) rfl ?_|refine JOq (yQ rfl) rfl ?_|refine zO rfl rfl (by rfl) (by rfl) (by simpa using hv) rfl ?_|refine zW rfl rfl hv rfl ?_|refine zD rfl rfl ?_|refine zF rfl rfl ?_|refine zH rfl rfl ?_|refine zT rfl rfl rfl ?_|refine zS rfl (fun r => ?_))))
  exact ⟨rfl,_,res_none rfl,rfl,rfl,_,rfl⟩
section
variable {E : Env} {L M : List HP} {N : Nat} {fn : Func} {R : Ending → List HP → Prop} {v : Value}
theorem leavesU_r (e : Nat) (hv : Res Tryz.prog N fn E L v) (hR : R (.returned v) L) : xB Tryz.prog N fn R E [⟨.fn (.func 49) #[],#[ptr e]⟩] .returning L := by
  unfold xB
  refine ⟨by simp,49,rfl,inferInstance,((until_r e).frame L).mono ?_⟩
  rintro en u L' ⟨L1,⟨rfl,rfl,rfl⟩,rfl⟩
  unfold xB
  exact ⟨v,hv,hR⟩
theorem leavesU_p (e : Nat) (x : Value) (hx : x.oneCell' = true) [hs : Sel [pt e (.cells #[.nilIface] 43 (0,0))] L M] (hR : ∀ r,∃ v,Res Tryz.prog N fn E (pt r (.cells #[x] 184 (0,0)) :: pt e (.cells #[x] 43 (0,0)) :: M) v ∧ R (.returned v) (pt r (.cells #[x] 184 (0,0)) :: pt e (.cells #[x] 43 (0,0)) :: M)) :
    xB Tryz.prog N fn R E [⟨.fn (.func 49) #[],#[ptr e]⟩] (.panicking [{ v := stopV x,recovered := false }]) L := by
  unfold xB
  refine ⟨by simp,49,rfl,inferInstance,(CtD.heap (fun F w s => s.perm (hs.h.cons F)) ((until_p e x hx).frame M)).mono ?_⟩
  rintro en u L' ⟨L1,⟨rfl,hu,r,rfl⟩,rfl⟩
  show xB Tryz.prog N fn R E [] (settle u) _
  rw [hu]
  unfold xB
  exact hR r
end
theorem laid11_ok (m : Mdl) (hm : smallM m) {x y z : List UInt8} (h1 : sec1O m = some x) (h2 : sec2O m = some y) (h3 : sec3O m = some z) :
    Ct Tryz.prog 21 #[.agg (vN m).toArray] [uK m] (wF (.tuple #[.agg #[str x,str y,str z],.nilIface]) [uK m]) := by
  refine fn_retD (vs := [_]) Tryz.func21 rfl Tryz.ntmps21 (by simp) ?_
  repeat (first|(first|refine zB ?_|refine zE ?_|refine zG ?_)|(first|((first|refine zA rfl ?_);first|refine JO_defer rfl ?_|refine yN rfl rfl (fun r => ?_)|refine zS rfl (fun r => ?_)|refine tL (by rfl) rfl (fun r => ?_)|refine wP rfl rfl rfl ?_)))
  rename_i r1 r2
  revert r
  intro r3
  have c1 := text11_c (f := 51) [] [ptr r1] (MdH r1 m) _ (fun w => laid1_c w r1 m hm)
  have c2 := text11_c (f := 54) [] [ptr r1] (MdH r1 m) _ (fun w => laid2_c w r1 m hm)
  have c3 := text11_c (f := 57) [] [ptr r1] (MdH r1 m) _ (fun w => laid3_c w r1 m hm)
  rw [h1] at c1
  rw [h2] at c2
  rw [h3] at c3
  refine JL_heap ((Ent.sel (K := [pt r1 (.cells (vN m).toArray 28 (0,0)),uK m,pt r2 (.cells #[str [],str [],str []] 41 (0,0)),pt r3 (.cells #[.nilIface] 43 (0,0))])).trans mdh_in) ?_
  repeat (first|(first|refine zB ?_|refine zE ?_|refine zG ?_|refine zV ?_)|(first|((first|refine zA rfl ?_);first|refine JO_callT rfl c1 rfl (fun b1 g1 => ?_) (fun g => by cases g)|refine JO_callT rfl c2 rfl (fun b2 g2 => ?_) (fun g => by cases g)|refine JO_callT rfl c3 rfl (fun b3 g3 => ?_) (fun g => by cases g)|refine JOq (yR 0 (j := 0) rfl rfl (by decide) rfl) rfl ?_|refine JOq (yR 1 (j := 1) rfl rfl (by decide) rfl) rfl ?_|refine JOq (yR 2 (j := 2) rfl rfl (by decide) rfl) rfl ?_|refine zO rfl rfl (by rfl) (by rfl) (by simp [Value.oneCell']) rfl ?_|refine zU rfl (by rfl) rfl ?_|refine wP rfl rfl rfl ?_|refine zW rfl rfl (by first | rfl | assumption) rfl ?_)))
  cases g1
  cases g2
  cases g3
  exact leavesU_r _ (uO rfl (yV rfl rfl) (gives_1 rfl rfl)) ⟨_,(Ent.sel (K := [MdH r1 m])).trans (mdh_out.trans Ent.sel),rfl,rfl⟩
theorem laid11_bad (m : Mdl) (hm : smallM m) (h : sec1O m = none ∨ sec2O m = none ∨ sec3O m = none) :
    Ct Tryz.prog 21 #[.agg (vN m).toArray] [uK m] (RetE (fun _ : List UInt8 × List UInt8 × List UInt8 => True) (fun t => .tuple #[.agg #[str t.1,str t.2.1,str t.2.2],errno 2]) (fun _ => [])) := by
  cases h1 : sec1O m with
  | none =>
    refine fn_retD (vs := [_]) Tryz.func21 rfl Tryz.ntmps21 (by simp) ?_
    repeat (first|(first|refine zB ?_|refine zE ?_|refine zG ?_)|(first|((first|refine zA rfl ?_);first|refine JO_defer rfl ?_|refine yN rfl rfl (fun r => ?_)|refine zS rfl (fun r => ?_)|refine tL (by rfl) rfl (fun r => ?_)|refine wP rfl rfl rfl ?_)))
    rename_i r1 r2
    revert r
    intro r3
    have c1 := text11_c (f := 51) [] [ptr r1] (MdH r1 m) _ (fun w => laid1_c w r1 m hm)
    rw [h1] at c1
    refine JL_heap ((Ent.sel (K := [pt r1 (.cells (vN m).toArray 28 (0,0)),uK m,pt r2 (.cells #[str [],str [],str []] 41 (0,0)),pt r3 (.cells #[.nilIface] 43 (0,0))])).trans mdh_in) ?_
    repeat (first|(first|refine zB ?_)|(first|((first|refine zA rfl ?_);first|refine JOq (yR 0 (j := 0) rfl rfl (by decide) rfl) rfl ?_)))
    refine zA rfl (JO_callT rfl c1 rfl (fun b g => by cases g) (fun _ => ?_))
    refine leavesU_p _ (errno 2) rfl fun r => ?_
    refine ⟨_,uO rfl (yV (n := 3) rfl rfl) (gives_1 rfl rfl),?_⟩
    exact ⟨_,Ent.nil,(_,_,_),trivial,rfl,rfl⟩
  | some x =>
  cases h2 : sec2O m with
  | none =>
    refine fn_retD (vs := [_]) Tryz.func21 rfl Tryz.ntmps21 (by simp) ?_
    repeat (first|(first|refine zB ?_|refine zE ?_|refine zG ?_)|(first|((first|refine zA rfl ?_);first|refine JO_defer rfl ?_|refine yN rfl rfl (fun r => ?_)|refine zS rfl (fun r => ?_)|refine tL (by rfl) rfl (fun r => ?_)|refine wP rfl rfl rfl ?_)))
    rename_i r1 r2
    revert r
    intro r3
    have c1 := text11_c (f := 51) [] [ptr r1] (MdH r1 m) _ (fun w => laid1_c w r1 m hm)
    rw [h1] at c1
    have c2 := text11_c (f := 54) [] [ptr r1] (MdH r1 m) _ (fun w => laid2_c w r1 m hm)
    rw [h2] at c2
    refine JL_heap ((Ent.sel (K := [pt r1 (.cells (vN m).toArray 28 (0,0)),uK m,pt r2 (.cells #[str [],str [],str []] 41 (0,0)),pt r3 (.cells #[.nilIface] 43 (0,0))])).trans mdh_in) ?_
    repeat (first|(first|refine zB ?_|refine zE ?_|refine zG ?_)|(first|((first|refine zA rfl ?_);first|refine JO_callT rfl c1 rfl (fun b1 g1 => ?_) (fun g => by cases g)|refine JOq (yR 0 (j := 0) rfl rfl (by decide) rfl) rfl ?_|refine JOq (yR 1 (j := 1) rfl rfl (by decide) rfl) rfl ?_|refine wP rfl rfl rfl ?_|refine zW rfl rfl (by first | rfl | assumption) rfl ?_)))
    refine zA rfl (JO_callT rfl c2 rfl (fun b g => by cases g) (fun _ => ?_))
    refine leavesU_p _ (errno 2) rfl fun r => ?_
    refine ⟨_,uO rfl (yV (n := 3) rfl rfl) (gives_1 rfl rfl),?_⟩
    exact ⟨_,Ent.nil,(_,_,_),trivial,rfl,rfl⟩
  | some y =>
    have h3 : sec3O m = none := by
      rcases h with h | h | h
      · rw [h1] at h;cases h
      · rw [h2] at h;cases h
      · exact h
    refine fn_retD (vs := [_]) Tryz.func21 rfl Tryz.ntmps21 (by simp) ?_
    repeat (first|(first|refine zB ?_|refine zE ?_|refine zG ?_)|(first|((first|refine zA rfl ?_);first|refine JO_defer rfl ?_|refine yN rfl rfl (fun r => ?_)|refine zS rfl (fun r => ?_)|refine tL (by rfl) rfl (fun r => ?_)|refine wP rfl rfl rfl ?_)))
    rename_i r1 r2
    revert r
    intro r3
    have c1 := text11_c (f := 51) [] [ptr r1] (MdH r1 m) _ (fun w => laid1_c w r1 m hm)
    rw [h1] at c1
    have c2 := text11_c (f := 54) [] [ptr r1] (MdH r1 m) _ (fun w => laid2_c w r1 m hm)
    rw [h2] at c2
    have c3 := text11_c (f := 57) [] [ptr r1] (MdH r1 m) _ (fun w => laid3_c w r1 m hm)
    rw [h3] at c3
    refine JL_heap ((Ent.sel (K := [pt r1 (.cells (vN m).toArray 28 (0,0)),uK m,pt r2 (.cells #[str [],str [],str []] 41 (0,0)),pt r3 (.cells #[.nilIface] 43 (0,0))])).trans mdh_in) ?_
    repeat (first|(first|refine zB ?_|refine zE ?_|refine zG ?_)|(first|((first|refine zA rfl ?_);first|refine JO_callT rfl c1 rfl (fun b1 g1 => ?_) (fun g => by cases g)|refine JO_callT rfl c2 rfl (fun b2 g2 => ?_) (fun g => by cases g)|refine JOq (yR 0 (j := 0) rfl rfl (by decide) rfl) rfl ?_|refine JOq (yR 1 (j := 1) rfl rfl (by decide) rfl) rfl ?_|refine wP rfl rfl rfl ?_|refine zW rfl rfl (by first | rfl | assumption) rfl ?_)))
    refine zA rfl (JO_callT rfl c3 rfl (fun b g => by cases g) (fun _ => ?_))
    refine leavesU_p _ (errno 2) rfl fun r => ?_
    refine ⟨_,uO rfl (yV (n := 3) rfl rfl) (gives_1 rfl rfl),?_⟩
    exact ⟨_,Ent.nil,(_,_,_),trivial,rfl,rfl⟩
theorem ne_nil34 (c : Int) (w : World) : (binOp .eql 43 .nilIface (errno c)).run Tryz.prog w = .ok (.bool false) w := by
  have h : (Op.equal 43 .nilIface (errno c)).run Tryz.prog w = .ok false w := by
    unfold Op.equal
    rw [show Op.maxDepth = 9999 + 1 from rfl]
    unfold Op.equalIn
    simp [yM (TU.h (P := Tryz.prog) (t := 43))]
  have e : binOp .eql 43 .nilIface (errno c) = (do pure (Value.bool (← Op.equal 43 .nilIface (errno c)))) := rfl
  rw [e]
  simp only [Sem.run_bind,h,Result.andThen_ok,Sem.run_pure]
set_option maxRecDepth 8000 in
set_option maxHeartbeats 8000000 in
theorem is_e (c : Int) : Ct Tryz.prog 63 #[errno c,errno c,.bool true] [] (wF (.bool true) []) := by
  refine yE (vs := [_,_,_]) Tryz.func63 rfl Tryz.ntmps63 (by simp) ?_
  repeat (first|(first|refine zB ?_|refine zE ?_|refine zG ?_|refine zK ?_)|(first|((first|refine zA rfl ?_);first|refine zC rfl rfl ?_)))
  refine xU (β := Unit) (fun _ => [(0,errno c),(1,errno c),(2,.bool true)]) (fun _ => []) (fun _ => []) (fun _ => 0) () ?_ rfl Ent.sel ?_
  · (repeat (first|exact zM _|refine zI rfl ?_))
  · rintro ⟨⟩
    repeat (first|(first|refine zB ?_|refine zE ?_|refine zG ?_|refine zK ?_|refine zL rfl ?_|refine zV ?_)|(first|((first|refine zA rfl ?_|refine zZ rfl rfl ?_);first|refine JOq (JQ_eqK rfl rfl (fun _ => rfl) (eq34 _)) rfl ?_|refine zD rfl rfl ?_|refine zC rfl rfl ?_|refine yA rfl rfl rfl ?_)))
    exact zY rfl rfl Ent.sel
set_option maxRecDepth 8000 in
set_option maxHeartbeats 8000000 in
theorem Is_e (c : Int) : Ct Tryz.prog 22 #[errno c,errno c] [] (wF (.bool true) []) := by
  refine yE (vs := [_,_]) Tryz.func22 rfl Tryz.ntmps22 (by simp) ?_
  repeat (first|(first|refine zB ?_|refine zE ?_|refine zG ?_|refine zP ?_|refine zJ rfl ?_|refine zV ?_)|(first|((first|refine zA rfl ?_|refine zZ rfl rfl ?_);first|refine JOq (JQ_eqI1 rfl) rfl ?_|refine JOq (JQ_ext rfl (fun _ w _ => typeOf34 _ w)) rfl ?_|refine JOq (JQ_inv rfl rfl (mComp _) (fun _ w _ => comp34 w)) rfl ?_|refine zD rfl rfl ?_|refine zC rfl rfl ?_|refine yJ rfl rfl rfl ?_|refine zR rfl (is_e c) rfl ?_)))
  exact zY rfl rfl Ent.sel
set_option maxRecDepth 8000 in
set_option maxHeartbeats 8000000 in
theorem Is_n (c : Int) : Ct Tryz.prog 22 #[.nilIface,errno c] [] (wF (.bool false) []) := by
  refine yE (vs := [_,_]) Tryz.func22 rfl Tryz.ntmps22 (by simp) ?_
  repeat (first|(first|refine zB ?_|refine zE ?_|refine zG ?_|refine zL rfl ?_|refine zV ?_)|(first|((first|refine zA rfl ?_);first|refine JOq (JQ_eqI0 rfl) rfl ?_|refine JOq (JQ_eqK rfl rfl (fun _ => rfl) (ne_nil34 _)) rfl ?_|refine zD rfl rfl ?_|refine zC rfl rfl ?_|refine yA rfl rfl rfl ?_)|refine yU rfl rfl rfl ?_))
  exact zY rfl rfl Ent.sel
theorem put11_bad (m : Mdl) (hm : smallM m) (h : sec1O m = none ∨ sec2O m = none ∨ sec3O m = none) : Ct Tryz.prog 9 #[.agg (vN m).toArray] [uK m] (wF (.tuple #[str [],.int .i64 2]) [uK m]) := by
  have hl := laid11_bad m hm h
  have hi := Is_e 2
  refine yE (vs := [_]) Tryz.func9 rfl Tryz.ntmps9 (by simp) ?_
  repeat (first|(first|refine zB ?_|refine zE ?_|refine zG ?_|refine zL rfl ?_|refine zV ?_)|(first|((first|refine zA rfl ?_);first|refine JO_callEP rfl hl rfl (fun t _ => ?_)|refine zO rfl rfl (by rfl) (by rfl) (by simp [Value.oneCell']) rfl ?_|refine zD rfl rfl ?_|refine zC rfl rfl ?_|refine zU rfl (by rfl) rfl ?_|refine zT rfl rfl rfl ?_|refine yN rfl rfl (fun r => ?_)|refine zS rfl (fun r => ?_)|refine vD (by simp) rfl rfl ?_|refine zR rfl (hi) rfl ?_)))
  exact ret_twoV rfl rfl rfl Ent.sel
theorem put11_ok (m : Mdl) (hm : smallM m) {x y z : List UInt8} (h1 : sec1O m = some x) (h2 : sec2O m = some y) (h3 : sec3O m = some z) (hx : x.length ≤ 200000) (hy : y.length ≤ 200000) (hz : z.length ≤ 200000) : Ct Tryz.prog 9 #[.agg (vN m).toArray] [uK m] (wF (.tuple #[str (joinA x y z).1,.int .i64 (joinA x y z).2]) [uK m]) := by
  have hl := laid11_ok m hm h1 h2 h3
  have hi := Is_n 2
  have hj := join_c x y z hx hy hz
  refine yE (vs := [_]) Tryz.func9 rfl Tryz.ntmps9 (by simp) ?_
  repeat (first|(first|refine zB ?_|refine zE ?_|refine zG ?_|refine zP ?_|refine zJ rfl ?_|refine zV ?_)|(first|((first|refine zA rfl ?_);first|refine zN rfl hl rfl ?_|refine zO rfl rfl (by rfl) (by rfl) (by simp [Value.oneCell']) rfl ?_|refine zD rfl rfl ?_|refine zC rfl rfl ?_|refine zU rfl (by rfl) rfl ?_|refine zT rfl rfl rfl ?_|refine yN rfl rfl (fun r => ?_)|refine zS rfl (fun r => ?_)|refine vD (by simp) rfl rfl ?_|refine zR rfl (hi) rfl ?_|refine zR rfl (hj) rfl ?_)))
  exact ret_twoV rfl rfl rfl Ent.sel
end Go.Proofs.YtickblndgihoeaaGreatDoor
