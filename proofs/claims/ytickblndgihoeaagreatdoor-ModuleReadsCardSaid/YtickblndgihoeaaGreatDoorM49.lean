/- Layer 11: the document's Places; are modules read alike? -/
import Derived.Test.YtickblndgihoeaaGreatDoorM43
import Derived.Test.YtickblndgihoeaaGreatDoorM45
import Derived.Test.YtickblndgihoeaaGreatDoorM47
import Derived.Test.YtickblndgihoeaaGreatDoorM48
set_option linter.unusedSimpArgs false
namespace Go.Proofs.YtickblndgihoeaaGreatDoor
open Go Go.Sp
theorem modR6 (m : Mdl) {L : List HP} : Ent (uK m :: L) (Vw 3 (slc m.ta m.temps.length) m.temps.length (m.temps.flatMap wA) :: yB wS m.temps :: Vw 1 (slc m.nata m.nat.length) m.nat.length (ints m.nat) :: Vw 1 (slc m.tata m.tat.length) m.tat.length (ints m.tat) :: Vw 1 (slc m.cata m.cat.length) m.cat.length (ints m.cat) :: Vw 1 (slc m.sata m.sat.length) m.sat.length (ints m.sat) :: L) :=
  ent_split (A := uK m) (M := [_,_,_,_,_,_]) fun k hk => star_pers fun A hA => by
    have hm : A ∈ modK m := by
      simp only [List.mem_cons,List.not_mem_nil,or_false] at hA
      rcases hA with rfl | rfl | rfl | rfl | rfl | rfl <;> simp [modK]
    exact ⟨pers_modK m A hm,by unfold uK at hk;exact hk A hm⟩
structure PlcM (a b : Mdl) : Prop where
  n : a.nat = b.nat
  t : a.tat = b.tat
  c : a.cat = b.cat
  s : a.sat = b.sat
  at_ : a.temps.map Tem.at_ = b.temps.map Tem.at_
structure PbdM (a : Mdl) : Prop where
  n : a.nat.length ≤ 100000
  t : a.tat.length ≤ 100000
  c : a.cat.length ≤ 100000
  s : a.sat.length ≤ 100000
  at_ : a.temps.length ≤ 100000 ∧ ∀ t ∈ a.temps,t.at_.length ≤ 100000
attribute [local irreducible] callFunc Go.method J JL JO JR JR1 JRl Ct JG JM JM1 JW JW1 JQ JQ0 JS CtD xB by8 ints yB uT uK wZ
set_option synthInstance.maxHeartbeats 400000 in
set_option synthInstance.maxSize 2000 in
set_option maxHeartbeats 16000000 in
theorem dplaces_c (a b : Mdl) (h : PlcM a b) (hb : PbdM a) : Ct Tryz.prog 34 #[.agg (vN a).toArray,.agg (vN b).toArray] [uK a,uK b] (wF (.bool true) []) := by
  obtain ⟨n,⟨p1,k1⟩,ts,⟨p2,k2⟩,cs,⟨p3,k3⟩,ss,⟨p4,k4⟩,l1,a1,l2,a2,l3,a3,l4,a4⟩ := a
  obtain ⟨n',⟨p1',k1'⟩,ts',⟨p2',k2'⟩,cs',⟨p3',k3'⟩,ss',⟨p4',k4'⟩,l1',a1',l2',a2',l3',a3',l4',a4'⟩ := b
  obtain ⟨h1,h2,h3,h4,h5⟩ := h
  obtain ⟨b1,b2,b3,b4,b5,b6⟩ := hb
  dsimp only at h1 h2 h3 h4 h5 b1 b2 b3 b4 b5 b6
  subst h1 h2 h3 h4
  obtain ⟨lT,gT⟩ := map_two h5
  refine Ct.heap ((modR6 _).trans ((Ent.sel (K := uK ⟨n',(p1',k1'),ts',(p2',k2'),cs',(p3',k3'),ss',(p4',k4'),l1,a1',l2,a2',l3,a3',l4,a4'⟩ :: [Vw 3 (slc (p2,k2) ts.length) ts.length (ts.flatMap wA),yB wS ts,Vw 1 (slc a1 l1.length) l1.length (ints l1),Vw 1 (slc a2 l2.length) l2.length (ints l2),Vw 1 (slc a3 l3.length) l3.length (ints l3),Vw 1 (slc a4 l4.length) l4.length (ints l4)])).trans ((modR6 _).trans (Ent.sel (K := [Vw 3 (slc (p2,k2) ts.length) ts.length (ts.flatMap wA),yB wS ts,Vw 1 (slc a1 l1.length) l1.length (ints l1),Vw 1 (slc a2 l2.length) l2.length (ints l2),Vw 1 (slc a3 l3.length) l3.length (ints l3),Vw 1 (slc a4 l4.length) l4.length (ints l4),Vw 3 (slc (p2',k2') ts'.length) ts'.length (ts'.flatMap wA),yB wS ts',Vw 1 (slc a1' l1.length) l1.length (ints l1),Vw 1 (slc a2' l2.length) l2.length (ints l2),Vw 1 (slc a3' l3.length) l3.length (ints l3),Vw 1 (slc a4' l4.length) l4.length (ints l4)]))))) ?_
  simp only [vN,← lT]
  have c1 := dints_c l1 a1 a1' b1
  have c2 := dints_c l2 a2 a2' b2
  have c3 := dints_c l3 a3 a3' b3
  have c4 := dints_c l4 a4 a4' b4
  refine yE (vs := [.agg [slc (p1,k1) n.length,slc (p2,k2) ts.length,slc (p3,k3) cs.length,slc (p4,k4) ss.length,slc a1 l1.length,slc a2 l2.length,slc a3 l3.length,slc a4 l4.length].toArray,.agg [slc (p1',k1') n'.length,slc (p2',k2') ts.length,slc (p3',k3') cs'.length,slc (p4',k4') ss'.length,slc a1' l1.length,slc a2' l2.length,slc a3' l3.length,slc a4' l4.length].toArray]) Tryz.func34 rfl Tryz.ntmps34 (by simp) ?_
  repeat (first|(first|refine zB ?_|refine zE ?_|refine zG ?_|refine zK ?_|refine zP ?_|refine zJ rfl ?_)|(first|((first|refine zA rfl ?_|refine zZ rfl rfl ?_);first|refine JOq (JQ_neI0 rfl rfl) rfl ?_|refine zD rfl rfl ?_|refine zC rfl rfl ?_|refine yF rfl rfl ?_|refine zF rfl rfl ?_|refine zH rfl rfl ?_|refine yJ rfl rfl rfl ?_|refine xD rfl rfl ?_|refine yN rfl rfl (fun r => ?_)|refine zR rfl (c1) rfl ?_|refine zR rfl (c2) rfl ?_|refine zR rfl (c3) rfl ?_|refine zR rfl (c4) rfl ?_)))
  rename_i n2
  revert r
  intro n3
  refine xU (β := { i : Nat // i ≤ ts.length }) (fun j => [(2,ptr n2),(3,ptr n3),(5,.int .i64 (j.1 : Int))]) (fun _ => []) (fun _ => [pt n2 (.cells [slc (p1,k1) n.length,slc (p2,k2) ts.length,slc (p3,k3) cs.length,slc (p4,k4) ss.length,slc a1 l1.length,slc a2 l2.length,slc a3 l3.length,slc a4 l4.length].toArray 28 (0,0)),pt n3 (.cells [slc (p1',k1') n'.length,slc (p2',k2') ts.length,slc (p3',k3') cs'.length,slc (p4',k4') ss'.length,slc a1' l1.length,slc a2' l2.length,slc a3' l3.length,slc a4' l4.length].toArray 28 (0,0)),Vw 3 (slc (p2,k2) ts.length) ts.length (ts.flatMap wA),yB wS ts,Vw 1 (slc a1 l1.length) l1.length (ints l1),Vw 1 (slc a2 l2.length) l2.length (ints l2),Vw 1 (slc a3 l3.length) l3.length (ints l3),Vw 1 (slc a4 l4.length) l4.length (ints l4),Vw 3 (slc (p2',k2') ts.length) ts.length (ts'.flatMap wA),yB wS ts',Vw 1 (slc a1' l1.length) l1.length (ints l1),Vw 1 (slc a2' l2.length) l2.length (ints l2),Vw 1 (slc a3' l3.length) l3.length (ints l3),Vw 1 (slc a4' l4.length) l4.length (ints l4)]) (fun j => ts.length - j.1) ⟨0,by omega⟩ ?_ rfl Ent.sel ?_
  · (repeat (first|exact zM _|refine zI rfl ?_))
  rintro ⟨i,hi⟩
  dsimp only
  by_cases hil : i < ts.length
  · obtain ⟨x,y,hx,hy,hxy⟩ := gT i hil
    refine wE (φ := ∃ b o,p2 = some ⟨b,o,none⟩) (fun F w hs => (Ent.sel (K := [Vw 3 (slc (p2,k2) ts.length) ts.length (ts.flatMap wA)]) F w hs).tail.out (fun k hk => xW (by omega) k hk)) (fun hp => ?_)
    obtain ⟨q1,o1,rfl⟩ := hp
    refine wE (φ := ∃ b o,p2' = some ⟨b,o,none⟩) (fun F w hs => (Ent.sel (K := [Vw 3 (slc (p2',k2') ts.length) ts.length (ts'.flatMap wA)]) F w hs).tail.out (fun k hk => xW (by omega) k hk)) (fun hp => ?_)
    obtain ⟨q2,o2,rfl⟩ := hp
    obtain ⟨params,pp,code,pc,wt,wta⟩ := x
    obtain ⟨params',pp',code',pc',wt',wta'⟩ := y
    dsimp only at hxy
    subst hxy
    have bw : wt.length ≤ 100000 := b6 _ (List.mem_of_getElem? hx)
    repeat (first|(first|refine zB ?_|refine zE ?_|refine zG ?_|refine zK ?_|refine zP ?_|refine zL rfl ?_)|(first|((first|refine zA rfl ?_);first|refine JOq (yH rfl rfl (by omega)) rfl ?_|refine zD rfl rfl ?_|refine yF rfl rfl ?_|refine zF rfl rfl ?_|refine zH rfl rfl ?_)))
    refine J_allK wS ts (⟨params,pp,code,pc,wt,wta⟩ : Tem) [Vw 1 (slc wta wt.length) wt.length (ints wt)] pers_temR (List.mem_of_getElem? hx) (fun k hk B hB => by simp only [List.mem_cons,List.not_mem_nil,or_false] at hB;subst hB;exact ⟨vQ _ _ _ _,hk.2.2.2⟩) ?_
    simp only [List.cons_append,List.nil_append]
    refine J_allK wS ts' (⟨params',pp',code',pc',wt,wta'⟩ : Tem) [Vw 1 (slc wta' wt.length) wt.length (ints wt)] pers_temR (List.mem_of_getElem? hy) (fun k hk B hB => by simp only [List.mem_cons,List.not_mem_nil,or_false] at hB;subst hB;exact ⟨vQ _ _ _ _,hk.2.2.2⟩) ?_
    simp only [List.cons_append,List.nil_append]
    have hsm := dints_c wt wta wta' bw
    repeat (first|refine vO ?_|refine tA rfl ?_|refine JG_n rfl rfl rfl (by kernel_rfl) (by kernel_rfl) rfl Ent.sel (by first|exact JQ_index rfl rfl hil|exact tC rfl (xG (u := slc wta wt.length) (b := q1) (o := o1) (n := ts.length) (cap := k2) (j := i) (i := 2) hil (by rw [yY temC_len _ _ _ _ (by decide) hx];rfl))|exact tC rfl (xG (u := slc wta' wt.length) (b := q2) (o := o2) (n := ts.length) (cap := k2') (j := i) (i := 2) hil (by rw [yY temC_len _ _ _ _ (by decide) hy];rfl))|exact xE rfl|exact xL rfl|exact xP rfl|exact JQ_field rfl|exact JQ_not rfl) ?_|refine JG_jo rfl rfl rfl uX (zR rfl (hsm) rfl ⟨Ent.sel,?_⟩))
    repeat (first|(first|refine zB ?_|refine zE ?_|refine zP ?_|refine zJ rfl ?_)|(first|((first|refine zA rfl ?_);first|refine yZ (b := 1) rfl rfl (by omega) rfl ?_|refine zD rfl rfl ?_|refine zC rfl rfl ?_)))
    exact ⟨⟨i + 1,by omega⟩,by simp only;omega,by (repeat (first|exact zM _|refine zI rfl ?_)),rfl,Ent.sel⟩
  obtain rfl : i = ts.length := by omega
  repeat (first|(first|refine zB ?_|refine zE ?_|refine zG ?_|refine zJ rfl ?_|refine xA ?_|refine zV ?_)|(first|((first|refine zA rfl ?_);first|refine JOq (yS rfl rfl (by omega)) rfl ?_|refine zD rfl rfl ?_|refine zC rfl rfl ?_|refine yF rfl rfl ?_|refine zF rfl rfl ?_|refine zH rfl rfl ?_)))
  exact zY rfl rfl .nil
theorem same_two {m1 m2 : Mdl} (h : erM m1 = erM m2) : SameM m1 m2 ∧ PlcM m1 m2 := by
  have e1 : m1.nodes.map erN = m2.nodes.map erN := congrArg Mdl.nodes h
  have e2 : m1.temps.map erT = m2.temps.map erT := congrArg Mdl.temps h
  have e3 : (erM m1).chans = (erM m2).chans := congrArg Mdl.chans h
  have e4 : (erM m1).nat = (erM m2).nat := congrArg Mdl.nat h
  have e5 : (erM m1).tat = (erM m2).tat := congrArg Mdl.tat h
  have e6 : (erM m1).cat = (erM m2).cat := congrArg Mdl.cat h
  have e7 : (erM m1).sat = (erM m2).sat := congrArg Mdl.sat h
  refine ⟨⟨e1,?_,e3,congrArg Mdl.starts h⟩,⟨e4,e5,e6,e7,?_⟩⟩
  · have := congrArg (fun l => l.map fun t : Tem => (t.params,t.code)) e2
    simpa [erT,Function.comp_def] using this
  · have := congrArg (fun l => l.map Tem.at_) e2
    simpa [erT,Function.comp_def] using this
theorem er_er (m : Mdl) : erM (erM m) = erM m := by simp [erM,erN,erT,erS,erY,Function.comp_def]
theorem taken_pbd {s : List UInt8} {m m1 : Mdl} {bs : List UInt8} {pl : Int} (h : wZ s = .ok m bs pl) (hm : erM m1 = m) : BndM m1 ∧ PbdM m1 := by
  subst hm
  have hs := same_two (er_er m1)
  have hB := (taken_small h hs.1.symm).2
  have hF := taken_facts h
  obtain ⟨⟨f1,f2,f3,f4⟩,_,f5⟩ := hF
  simp only [erM,List.length_map] at f1 f2 f3 f4
  obtain ⟨⟨b1,_⟩,⟨b2,b3⟩,b4,b5,_⟩ := hB
  refine ⟨(taken_small h hs.1.symm).2,⟨by omega,by omega,by omega,by omega,b2,fun t ht => ?_⟩⟩
  obtain ⟨k,hk⟩ := List.getElem?_of_mem ht
  obtain ⟨_,_,g,_⟩ := f5 k (erT t) (by simp [erM,hk])
  have := (b3 t ht).2
  simp only [erT,List.length_map] at g
  omega
theorem zero_pbd : PbdM vH := ⟨by decide,by decide,by decide,by decide,by decide,fun t ht => by cases ht⟩
theorem zero_bnd : BndM vH := ⟨⟨by decide,fun x hx => by cases hx⟩,⟨by decide,fun x hx => by cases hx⟩,by decide,⟨by decide,fun x hx => by cases hx⟩⟩
theorem zero_dsame : Ct Tryz.prog 33 #[.agg (vN vH).toArray,.agg (vN vH).toArray] [] (wF (.bool true) []) := Ct.heap (zeroR.trans zeroR) (dsame11_c vH vH (SameM.refl _) zero_bnd)
theorem zero_places : Ct Tryz.prog 34 #[.agg (vN vH).toArray,.agg (vN vH).toArray] [] (wF (.bool true) []) := Ct.heap (zeroR.trans zeroR) (dplaces_c vH vH ⟨rfl,rfl,rfl,rfl,rfl⟩ zero_pbd)
set_option maxHeartbeats 4000000 in
theorem alike11_c (s : List UInt8) (hs : s.length ≤ 1000000) (te : TypeId) (fz : Nat × Nat) : Ct Tryz.prog 12 #[str s] [Gl te fz] (wF (.bool true) [Gl te fz]) := by
  have hd := dread11_c s hs
  cases hT : wZ s with
  | ok m b p =>
    have hr := read11_ok s hs hT
    rw [hT] at hd
    have hd : Ct Tryz.prog 31 #[str s] [] (RetE (fun m' => erM m' = m) (fun m' => .tuple #[.agg (vN m').toArray,uC 0 0]) (fun m' => [uK m'])) := hd.mono fun _ _ h => h
    refine yE (vs := [_]) Tryz.func12 rfl Tryz.ntmps12 (by simp) ?_
    repeat (first|(first|refine zB ?_|refine zE ?_|refine zG ?_)|(first|((first|refine zA rfl ?_);first|refine yK rfl hr rfl (fun m1 h1 => ?_)|refine yK rfl hd rfl (fun m2 h2 => ?_)|refine zO rfl rfl (by rfl) (by rfl) (by simp [Value.oneCell']) rfl ?_|refine zD rfl rfl ?_|refine zC rfl rfl ?_|refine zU rfl (by rfl) rfl ?_|refine zT rfl rfl rfl ?_|refine zS rfl (fun r => ?_))))
    obtain ⟨hsm,hpl⟩ := same_two (h1.trans h2.symm)
    obtain ⟨hB,hP⟩ := taken_pbd hT h1
    have ht := told_none
    have hS := dsame11_c m1 m2 hsm hB
    have hL := dplaces_c m1 m2 hpl hP
    repeat (first|(first|refine zE ?_|refine zV ?_)|(first|((first|refine zA rfl ?_|refine zZ rfl rfl ?_);first|refine xI (cs := vN m1) rfl (by simp) rfl ?_|refine xI (cs := vN m2) rfl (by simp) rfl ?_|refine zD rfl rfl ?_|refine zC rfl rfl ?_|refine yA rfl rfl rfl ?_|refine zR rfl (ht) rfl ?_|refine zR rfl (hS) rfl ?_|refine zR rfl (hL) rfl ?_)))
    exact zY rfl rfl Ent.sel
  | bad c a =>
    have hr := read11_bad s hs hT
    rw [hT] at hd
    have hd : Ct Tryz.prog 31 #[str s] [] (RetE (fun _ : Unit => c ≠ 0) (fun _ => .tuple #[.agg (vN vH).toArray,uC c a]) (fun _ => [])) := hd.mono fun _ _ h => ⟨(),h.1,h.2.1,h.2.2⟩
    have hS := zero_dsame
    have hL := zero_places
    refine yE (vs := [_]) Tryz.func12 rfl Tryz.ntmps12 (by simp) ?_
    repeat (first|(first|refine zB ?_|refine zE ?_|refine zG ?_)|(first|((first|refine zA rfl ?_);first|refine yK rfl hd rfl (fun _ hc => ?_)|refine yK rfl hr rfl (fun q _ => ?_)|refine zO rfl rfl (by rfl) (by rfl) (by simp [Value.oneCell']) rfl ?_|refine zD rfl rfl ?_|refine zC rfl rfl ?_|refine zU rfl (by rfl) rfl ?_|refine zT rfl rfl rfl ?_|refine zS rfl (fun r => ?_))))
    have ht := told_faultK q c a hc te fz
    repeat (first|(first|refine zE ?_|refine zV ?_)|(first|((first|refine zA rfl ?_|refine zZ rfl rfl ?_);first|refine xI (cs := vN vH) rfl (by simp) rfl ?_|refine zD rfl rfl ?_|refine zC rfl rfl ?_|refine yA rfl rfl rfl ?_|refine zN rfl (ht) rfl ?_|refine zR rfl (hS) rfl ?_|refine zR rfl (hL) rfl ?_)))
    exact zY rfl rfl Ent.sel
end Go.Proofs.YtickblndgihoeaaGreatDoor
