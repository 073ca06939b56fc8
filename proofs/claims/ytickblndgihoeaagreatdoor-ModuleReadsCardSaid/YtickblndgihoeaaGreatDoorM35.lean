/- Layer 11: the law's works. -/
import Derived.Test.YtickblndgihoeaaGreatDoorM34
set_option linter.unusedSimpArgs false
namespace Go.Proofs.YtickblndgihoeaaGreatDoor
open Go Go.Sp
theorem modR11 (m : Mdl) {L : List HP} : Ent (uK m :: L) (Vw 6 (slc m.na m.nodes.length) m.nodes.length (m.nodes.flatMap xR) :: yB wG m.nodes :: Vw 3 (slc m.ta m.temps.length) m.temps.length (m.temps.flatMap wA) :: yB wS m.temps :: Vw 2 (slc m.ca m.chans.length) m.chans.length (m.chans.flatMap yI) :: Vw 2 (slc m.sa m.starts.length) m.starts.length (m.starts.flatMap vE) :: yB StaQ m.starts :: Vw 1 (slc m.nata m.nat.length) m.nat.length (ints m.nat) :: Vw 1 (slc m.tata m.tat.length) m.tat.length (ints m.tat) :: Vw 1 (slc m.cata m.cat.length) m.cat.length (ints m.cat) :: Vw 1 (slc m.sata m.sat.length) m.sat.length (ints m.sat) :: L) :=
  ent_split (A := uK m) (M := [_,_,_,_,_,_,_,_,_,_,_]) fun k hk => star_pers fun A hA => ⟨pers_modK m A hA,hk A hA⟩
theorem small_least (a b c d : SA) : smallM (leastM a b c d) := by
  refine ⟨?_,?_,?_,?_⟩ <;> simp [costs,costN,costT,costS]
theorem small_zero : smallM vH := by
  refine ⟨?_,?_,?_,?_⟩ <;> simp [costs,costN,costT,costS]
theorem zeroR {L : List HP} : Ent L (uK vH :: L) := ent_true fun k => by
  have hi : Vw 1 (slc no0 0) 0 (ints []) k := by rw [ints_nil];exact nil_vw 1 k
  intro A hA
  simp only [modK,List.mem_cons,List.not_mem_nil,or_false] at hA
  rcases hA with rfl | rfl | rfl | rfl | rfl | rfl | rfl | rfl | rfl | rfl | rfl
  · exact nil_vw 6 k
  · exact fun _ h => by cases h
  · exact nil_vw 3 k
  · exact fun _ h => by cases h
  · exact nil_vw 2 k
  · exact nil_vw 2 k
  · exact fun _ h => by cases h
  · exact hi
  · exact hi
  · exact hi
  · exact hi
theorem temR_K4 (t : Tem) : ∀ k,wS t k → ∀ B ∈ [Vw 3 (slc t.pa t.params.length) t.params.length (t.params.flatMap tI),Vw 6 (slc t.ca t.code.length) t.code.length (t.code.flatMap vC),yB uT t.code,Vw 1 (slc t.aa t.at_.length) t.at_.length (ints t.at_)],Pers B ∧ B k := fun k hk B hB => by
  simp only [List.mem_cons,List.not_mem_nil,or_false] at hB
  rcases hB with rfl | rfl | rfl | rfl
  · exact ⟨vQ _ _ _ _,hk.1⟩
  · exact ⟨vQ _ _ _ _,hk.2.1⟩
  · exact ⟨pers_all pers_insR _,hk.2.2.1⟩
  · exact ⟨vQ _ _ _ _,hk.2.2.2⟩
section
variable {N : Nat} {rd : Option Nat} {all : Array Oper} {i : Nat} {rest : List Oper} {E : Env} {D : List Deferred} {L M : List HP} {Q : uF}
theorem JL_allK {α : Type} (R : α → HP) (xs : List α) (x : α) (K : List HP) (hp : ∀ x,Pers (R x)) (hx : x ∈ xs) (hK : ∀ k,R x k → ∀ B ∈ K,Pers B ∧ B k) [t : Tk (yB R xs) L M] (h : JL Tryz.prog N rd all i rest E D (K ++ L) Q) : JL Tryz.prog N rd all i rest E D L Q := JL_heap ((all_add R xs x hp hx).trans (ent_split fun k hk => star_pers (hK k hk))) h
theorem JL_vwp {p : Option Addr} {n cap sz : Nat} {cs : List Value} [hv : HV L (.slice p n cap) sz n cs] (hn : 0 < n) (h : (∃ b o,p = some ⟨b,o,none⟩) → JL Tryz.prog N rd all i rest E D L Q) : JL Tryz.prog N rd all i rest E D L Q :=
  JL_fact (fun F w hs => by
    obtain ⟨M,hM⟩ := hv.h F w hs
    exact hM.out fun k hk => xW hn k hk) h
end
abbrev bareT : Tem := ⟨[],no0,[],no0,[],no0⟩
abbrev bareM (a : SA) : Mdl := ⟨[],no0,[bareT],a,[],no0,[],no0,[],no0,[],no0,[],no0,[],no0⟩
theorem small_bare (a : SA) : smallM (bareM a) := by
  refine ⟨?_,?_,?_,?_⟩ <;> simp [costs,costN,costT,costS]
theorem bareR (a : SA) {L : List HP} : Ent (Vw 3 (slc a 1) 1 ([bareT].flatMap wA) :: L) (uK (bareM a) :: L) := ent_turn fun k h => by
  have hi : Vw 1 (slc no0 0) 0 (ints []) k := by rw [ints_nil];exact nil_vw 1 k
  intro A hA
  simp only [modK,List.mem_cons,List.not_mem_nil,or_false] at hA
  rcases hA with rfl | rfl | rfl | rfl | rfl | rfl | rfl | rfl | rfl | rfl | rfl
  · exact nil_vw 6 k
  · exact fun _ h => by cases h
  · exact h
  · exact all_one ⟨nil_vw 3 k,nil_vw 6 k,(fun _ hy => by cases hy),hi⟩
  · exact nil_vw 2 k
  · exact nil_vw 2 k
  · exact fun _ h => by cases h
  · exact hi
  · exact hi
  · exact hi
  · exact hi
theorem bare_no (a : SA) : sec2O (bareM a) = none := by
  unfold sec2O
  refine (uR (show (0 : Int) ≤ ((1 : Nat) : Int) by decide)).trans ?_
  rw [mapO_bad (o := temO) (x := bareT) (by unfold temO;rw [show wH 1 128 insO bareT.code = none from listO_few (by decide),catO_none']) (by simp),catO_none']
attribute [local irreducible] callFunc Go.method J JL JO JR JR1 JRl Ct JG JM JM1 JW JW1 JQ JQ0 JS CtD xB ints by8 chkA tJ yB uK wZ temO wJ staO sec1O sec2O sec3O
set_option maxRecDepth 8000 in
set_option synthInstance.maxHeartbeats 400000 in
set_option synthInstance.maxSize 2000 in
set_option maxHeartbeats 16000000 in
theorem works11_c (te : TypeId) (fz : Nat × Nat) : Ct Tryz.prog 11 #[] [Gl te fz] (wF (.bool true) [Gl te fz]) := by
  have hr := read11_ok wantL (by decide) want_D
  have hq := read11_ok _ (by decide) mul_D
  have hz := put_same zero_D (SameM.refl vH) small_zero
  have f1 := fails11_c _ (by decide) bad1_D (by decide) te fz
  have f2 := fails11_c _ (by decide) bad2_D (by decide) te fz
  refine yE (vs := []) Tryz.func11 rfl Tryz.ntmps11 (by simp) ?_
  repeat (first|(first|refine zB ?_|refine zE ?_|refine zG ?_)|(first|((first|refine zA rfl ?_);first|refine yK rfl least11_c rfl (fun x _ => ?_)|refine zC rfl rfl ?_)))
  obtain ⟨a,b,c,d⟩ := x
  have hp := put_same (m := leastM a b c d) want_D ⟨rfl,rfl,rfl,rfl⟩ (small_least a b c d)
  refine zA rfl (zN rfl hp rfl ?_)
  refine JL_heap zeroR ?_
  repeat (first|(first|refine zB ?_|refine zE ?_|refine zG ?_)|(first|((first|refine zA rfl ?_);first|refine yK rfl hr rfl (fun m1 hm1 => ?_)|refine zO rfl rfl (by rfl) (by rfl) (by simp [Value.oneCell']) rfl ?_|refine yG (cs := vN vH) rfl rfl rfl ?_|refine zN rfl hz rfl ?_|refine yG (cs := wA bareT) rfl rfl rfl ?_|refine JO_rowV wA [bareT] temC_len rfl rfl rfl (by decide) (by decide) rfl (fun r1 => ?_)|refine yG (cs := vN (bareM (some ⟨r1,0,none⟩,1))) rfl rfl rfl ?_|refine zD rfl rfl ?_|refine zC rfl rfl ?_|refine zT rfl rfl rfl ?_|refine zS rfl (fun r => ?_))))
  have hb := put11_bad (bareM (some ⟨r1,0,none⟩,1)) (small_bare _) (.inr (.inl (bare_no _)))
  have o1 := one_of_er hm1
  obtain ⟨t,y,ht,g8,g9,g10,g11⟩ := o1.temps
  refine JL_heap ((Ent.sel (K := [Vw 3 (.slice (some ⟨r1,0,none⟩) 1 1) 1 ([bareT].flatMap wA),uK m1,pt r (.cells (vN m1).toArray 28 (0,0)),Gl te fz])).trans ((bareR (some ⟨r1,0,none⟩,1)).trans ((Ent.sel (K := [uK m1,uK (bareM (some ⟨r1,0,none⟩,1)),pt r (.cells (vN m1).toArray 28 (0,0)),Gl te fz])).trans (modR11 m1)))) ?_
  refine JL_allK wS m1.temps t _ pers_temR (by rw [ht];simp) (temR_K4 t) ?_
  simp only [List.cons_append,List.nil_append]
  obtain ⟨_,g2,_,g4,g5,g6,g7,_⟩ := o1
  obtain ⟨ns,na,ts,⟨pT,kT⟩,cs,ca,ss,sa,nat,⟨pn,kn⟩,tat,⟨pt_,kt⟩,cat,cata,sat,⟨ps,ks⟩⟩ := m1
  obtain ⟨params,pa,code,⟨pc,kc⟩,at_,⟨pw,kw⟩⟩ := t
  obtain ⟨x,xp,xk⟩ := y
  dsimp only at g2 g4 g5 g6 g7 g8 g9 g10 g11 ht
  subst g2 g4 g5 g6 g7 g8 g9 g10 g11 ht
  simp only [List.length_cons,List.length_nil,Nat.zero_add]
  refine JL_vwp (p := pn) (n := 1) (cap := kn) (by decide) fun hp => ?_
  obtain ⟨bn,on,rfl⟩ := hp
  refine JL_vwp (p := pt_) (n := 1) (cap := kt) (by decide) fun hp => ?_
  obtain ⟨bt,ot,rfl⟩ := hp
  refine JL_vwp (p := ps) (n := 1) (cap := ks) (by decide) fun hp => ?_
  obtain ⟨bs,os,rfl⟩ := hp
  refine JL_vwp (p := pT) (n := 1) (cap := kT) (by decide) fun hp => ?_
  obtain ⟨bT,oT,rfl⟩ := hp
  refine JL_vwp (p := pc) (n := 1) (cap := kc) (by decide) fun hp => ?_
  obtain ⟨bc,oc,rfl⟩ := hp
  refine JL_vwp (p := pw) (n := 1) (cap := kw) (by decide) fun hp => ?_
  obtain ⟨bw,ow,rfl⟩ := hp
  repeat (first|(first|refine zB ?_|refine zE ?_|refine zG ?_|refine zP ?_|refine zJ rfl ?_)|(first|((first|refine zA rfl ?_|refine zZ rfl rfl ?_);first|refine zN rfl hb rfl ?_|refine JOq (JQ_neS0 (a := wantL) rfl rfl) rfl ?_|refine JOq (uJ rfl) rfl ?_|refine JOq (JQ_neI0 rfl rfl) rfl ?_|refine JOq (JQ_index (j := 0) rfl rfl Nat.zero_lt_one) rfl ?_|refine wU rfl (xG (sz := 3) (cs := [(⟨[],pa,[(⟨24,0,0,0,0,[]⟩,xp,xk)],(some ⟨bc,oc,none⟩,kc),[14],(some ⟨bw,ow,none⟩,kw)⟩ : Tem)].flatMap wA) (b := bT) (o := oT) (n := 1) (cap := kT) (j := 0) (i := 1) (by decide) (by rfl)) rfl ?_|refine wU rfl (xG (sz := 3) (cs := [(⟨[],pa,[(⟨24,0,0,0,0,[]⟩,xp,xk)],(some ⟨bc,oc,none⟩,kc),[14],(some ⟨bw,ow,none⟩,kw)⟩ : Tem)].flatMap wA) (b := bT) (o := oT) (n := 1) (cap := kT) (j := 0) (i := 2) (by decide) (by rfl)) rfl ?_|refine zD rfl rfl ?_|refine zC rfl rfl ?_|refine yF rfl rfl ?_|refine zF rfl rfl ?_|refine JO_field rfl rfl ?_|refine zH rfl rfl ?_|refine yJ rfl rfl rfl ?_|refine zT rfl rfl rfl ?_)))
  refine zA rfl (yK rfl hq rfl (fun m2 hm2 => ?_))
  have o2 := one_of_er hm2
  obtain ⟨t2,y2,ht2,e8,e9,e10,e11⟩ := o2.temps
  refine JL_heap (modR11 m2) ?_
  refine JL_allK wS m2.temps t2 _ pers_temR (by rw [ht2];simp) (temR_K4 t2) ?_
  simp only [List.cons_append,List.nil_append]
  obtain ⟨_,e2,_,e4,e5,e6,e7,_⟩ := o2
  obtain ⟨ns',na',ts',⟨pU,kU⟩,cs',ca',ss',sa',nat',nata',tat',tata',cat',cata',sat',sata'⟩ := m2
  obtain ⟨params',pa',code',⟨pd,kd⟩,at_',⟨pw',kw'⟩⟩ := t2
  obtain ⟨x',xp',xk'⟩ := y2
  dsimp only at e2 e4 e5 e6 e7 e8 e9 e10 e11 ht2
  subst e2 e4 e5 e6 e7 e8 e9 e10 e11 ht2
  simp only [List.length_cons,List.length_nil,Nat.zero_add]
  refine JL_vwp (p := pU) (n := 1) (cap := kU) (by decide) fun hp => ?_
  obtain ⟨bU,oU,rfl⟩ := hp
  refine JL_vwp (p := pd) (n := 1) (cap := kd) (by decide) fun hp => ?_
  obtain ⟨bd,od,rfl⟩ := hp
  repeat (first|(first|refine zB ?_|refine zE ?_|refine zG ?_|refine zP ?_|refine zJ rfl ?_|refine zV ?_)|(first|((first|refine zA rfl ?_|refine zZ rfl rfl ?_);first|refine wU rfl (xG (sz := 3) (cs := [(⟨[],pa',[(⟨6,0,0,0,0,[]⟩,xp',xk')],(some ⟨bd,od,none⟩,kd),[14],(pw',kw')⟩ : Tem)].flatMap wA) (b := bU) (o := oU) (n := 1) (cap := kU) (j := 0) (i := 1) (by decide) (by rfl)) rfl ?_|refine wU rfl (xG (sz := 6) (cs := [((⟨6,0,0,0,0,[]⟩,xp',xk') : YI)].flatMap vC) (b := bd) (o := od) (n := 1) (cap := kd) (j := 0) (i := 0) (by decide) (by rfl)) rfl ?_|refine zN rfl f1 rfl ?_|refine zN rfl f2 rfl ?_|refine JOq (JQ_eqS0 rfl rfl) rfl ?_|refine zO rfl rfl (by rfl) (by rfl) (by simp [Value.oneCell']) rfl ?_|refine JOq (uJ rfl) rfl ?_|refine JOq (JQ_neI0 rfl rfl) rfl ?_|refine JOq (JQ_index1 (j := 0) rfl rfl Nat.zero_lt_one) rfl ?_|refine JOq (JQ_index (j := 0) rfl rfl Nat.zero_lt_one) rfl ?_|refine wU rfl (lds_vw1 (b := bn) (o := on) (n := 1) (cap := kn) (j := 0) (by decide) (ints_get rfl)) rfl ?_|refine wU rfl (lds_vw1 (b := bt) (o := ot) (n := 1) (cap := kt) (j := 0) (by decide) (ints_get rfl)) rfl ?_|refine wU rfl (lds_vw1 (b := bs) (o := os) (n := 1) (cap := ks) (j := 0) (by decide) (ints_get rfl)) rfl ?_|refine wU rfl (lds_vw1 (b := bw) (o := ow) (n := 1) (cap := kw) (j := 0) (by decide) (ints_get rfl)) rfl ?_|refine wU rfl (xG (sz := 3) (cs := [(⟨[],pa,[(⟨24,0,0,0,0,[]⟩,xp,xk)],(some ⟨bc,oc,none⟩,kc),[14],(some ⟨bw,ow,none⟩,kw)⟩ : Tem)].flatMap wA) (b := bT) (o := oT) (n := 1) (cap := kT) (j := 0) (i := 1) (by decide) (by rfl)) rfl ?_|refine wU rfl (xG (sz := 3) (cs := [(⟨[],pa,[(⟨24,0,0,0,0,[]⟩,xp,xk)],(some ⟨bc,oc,none⟩,kc),[14],(some ⟨bw,ow,none⟩,kw)⟩ : Tem)].flatMap wA) (b := bT) (o := oT) (n := 1) (cap := kT) (j := 0) (i := 2) (by decide) (by rfl)) rfl ?_|refine wU rfl (xG (sz := 6) (cs := [((⟨24,0,0,0,0,[]⟩,xp,xk) : YI)].flatMap vC) (b := bc) (o := oc) (n := 1) (cap := kc) (j := 0) (i := 0) (by decide) (by rfl)) rfl ?_|refine JOq (yT rfl rfl (by omega)) rfl ?_|refine zD rfl rfl ?_|refine zC rfl rfl ?_|refine yF rfl rfl ?_|refine zF rfl rfl ?_|refine JO_field rfl rfl ?_|refine zH rfl rfl ?_|refine yA rfl rfl rfl ?_|refine yJ rfl rfl rfl ?_|refine JO_eqI rfl rfl rfl ?_|refine zT rfl rfl rfl ?_|refine zS rfl (fun r => ?_))))
  exact zY rfl rfl Ent.sel
end Go.Proofs.YtickblndgihoeaaGreatDoor
