/- Layer 11: few's walk: a module of which each list is cut. -/
import Derived.Test.YtickblndgihoeaaGreatDoorM36
set_option linter.unusedSimpArgs false
namespace Go.Proofs.YtickblndgihoeaaGreatDoor
open Go Go.Sp
structure CapM (m : Mdl) : Prop where
  n : ∀ x ∈ m.nodes,x.next.length ≤ x.a.2
  t : ∀ x ∈ m.temps,x.params.length ≤ x.pa.2 ∧ ∀ y ∈ x.code,y.1.l.length ≤ y.2.2 ∧ -9223372036854775808 ≤ y.1.a ∧ y.1.a ≤ 9223372036854775807
  c : m.chans.length ≤ m.ca.2
  s : ∀ x ∈ m.starts,x.args.length ≤ x.a.2 ∧ ∀ p ∈ x.args,arOk p
def InsV (y : YI) : HP := Vw 1 (.slice y.2.1 y.1.l.length y.2.2) y.1.l.length (ints y.1.l)
theorem pers_insV (y : YI) : Pers (InsV y) := vQ _ _ _ _
def TemV (t : Tem) : HP := fun k => Vw 3 (slc t.pa t.params.length) t.params.length (t.params.flatMap tI) k ∧ Vw 6 (slc t.ca t.code.length) t.code.length (t.code.flatMap vC) k ∧ yB InsV t.code k
theorem pers_temV (t : Tem) : Pers (TemV t) := fun k h => ⟨vQ _ _ _ _ k h.1,vQ _ _ _ _ k h.2.1,pers_all pers_insV _ k h.2.2⟩
theorem temV_K (t : Tem) : ∀ k,TemV t k → ∀ B ∈ [Vw 3 (slc t.pa t.params.length) t.params.length (t.params.flatMap tI),Vw 6 (slc t.ca t.code.length) t.code.length (t.code.flatMap vC),yB InsV t.code],Pers B ∧ B k := fun k hk B hB => by
  simp only [List.mem_cons,List.not_mem_nil,or_false] at hB
  rcases hB with rfl | rfl | rfl
  · exact ⟨vQ _ _ _ _,hk.1⟩
  · exact ⟨vQ _ _ _ _,hk.2.1⟩
  · exact ⟨pers_all pers_insV _,hk.2.2⟩
theorem pers_staR' (s : Sta) : Pers (StaR s) := vQ _ _ _ _
abbrev rawK (m : Mdl) : List HP := [Vw 6 (slc m.na m.nodes.length) m.nodes.length (m.nodes.flatMap xR),yB wG m.nodes,Vw 3 (slc m.ta m.temps.length) m.temps.length (m.temps.flatMap wA),yB TemV m.temps,Vw 2 (slc m.ca m.chans.length) m.chans.length (m.chans.flatMap yI),Vw 2 (slc m.sa m.starts.length) m.starts.length (m.starts.flatMap vE),yB StaR m.starts]
theorem pers_rawK (m : Mdl) : ∀ A ∈ rawK m,Pers A := fun A hA => by
  simp only [rawK,List.mem_cons,List.not_mem_nil,or_false] at hA
  rcases hA with rfl | rfl | rfl | rfl | rfl | rfl | rfl
  · exact vQ _ _ _ _
  · exact pers_all pers_nodR _
  · exact vQ _ _ _ _
  · exact pers_all pers_temV _
  · exact vQ _ _ _ _
  · exact vQ _ _ _ _
  · exact pers_all pers_staR' _
def RawR (m : Mdl) : HP := fun k => ∀ A ∈ rawK m,A k
theorem rawR7 (m : Mdl) {L : List HP} : Ent (RawR m :: L) (Vw 6 (slc m.na m.nodes.length) m.nodes.length (m.nodes.flatMap xR) :: yB wG m.nodes :: Vw 3 (slc m.ta m.temps.length) m.temps.length (m.temps.flatMap wA) :: yB TemV m.temps :: Vw 2 (slc m.ca m.chans.length) m.chans.length (m.chans.flatMap yI) :: Vw 2 (slc m.sa m.starts.length) m.starts.length (m.starts.flatMap vE) :: yB StaR m.starts :: L) :=
  ent_split (A := RawR m) (M := [_,_,_,_,_,_,_]) fun k hk => star_pers fun A hA => ⟨pers_rawK m A hA,hk A hA⟩
structure FewM (m : Mdl) : Prop where
  n : m.nodes.length ≤ 70 ∧ ∀ x ∈ m.nodes,x.next.length ≤ 10
  t : m.temps.length ≤ 18 ∧ ∀ x ∈ m.temps,x.params.length ≤ 10 ∧ x.code.length ≤ 30 ∧ ∀ y ∈ x.code,y.1.l.length ≤ 10 ∧ -9223372036854775808 ≤ y.1.a ∧ y.1.a ≤ 9223372036854775807
  c : m.chans.length ≤ 18
  s : m.starts.length ≤ 10 ∧ ∀ x ∈ m.starts,x.args.length ≤ 10 ∧ ∀ p ∈ x.args,arOk p
  e : m.nat = [] ∧ m.tat = [] ∧ m.cat = [] ∧ m.sat = []
theorem uL {α : Type} {f : α → Nat} {b : Nat} : ∀ {l : List α},(∀ x ∈ l,f x ≤ b) → costs f l ≤ l.length * b
  | [],_ => by simp [costs]
  | x :: l,h => by
    have h1 := h x (List.mem_cons_self ..)
    have h2 := uL (l := l) fun y hy => h y (List.mem_cons_of_mem _ hy)
    simp only [costs,List.length_cons,Nat.succ_mul]
    omega
theorem small_few {m : Mdl} (h : FewM m) : smallM m := by
  obtain ⟨⟨n1,n2⟩,⟨t1,t2⟩,c1,⟨s1,s2⟩,_⟩ := h
  have e1 : costs costN m.nodes ≤ m.nodes.length * 300 := uL fun x hx => by
    have h1 := uL (f := fun _ : Int × Int => 20) (b := 20) (l := x.next) (fun _ _ => Nat.le_refl _)
    have := n2 x hx
    unfold costN;omega
  have e2 : costs costT m.temps ≤ m.temps.length * 4530 := uL fun x hx => by
    have h1 := uL (f := fun _ : Prm => 30) (b := 30) (l := x.params) (fun _ _ => Nat.le_refl _)
    have h2 := uL (f := fun _ : YI => 140) (b := 140) (l := x.code) (fun _ _ => Nat.le_refl _)
    have := t2 x hx
    unfold costT;omega
  have e3 : costs (fun _ : Int × Int => 20) m.chans ≤ m.chans.length * 20 := uL fun _ _ => Nat.le_refl _
  have e4 : costs costS m.starts ≤ m.starts.length * 330 := uL fun x hx => by
    have h1 := uL (f := fun _ : Ar => 30) (b := 30) (l := x.args) (fun _ _ => Nat.le_refl _)
    have := s2 x hx
    unfold costS;omega
  refine ⟨?_,?_,?_,?_⟩ <;> omega
theorem bnd_few {m : Mdl} (h : FewM m) : BndM m := by
  obtain ⟨⟨n1,n2⟩,⟨t1,t2⟩,c1,⟨s1,s2⟩,_⟩ := h
  refine ⟨⟨by omega,fun x hx => ?_⟩,⟨by omega,fun x hx => ?_⟩,by omega,⟨by omega,fun x hx => ?_⟩⟩
  · have := n2 x hx;omega
  · have := t2 x hx;omega
  · have := s2 x hx;omega
theorem ok_few {m : Mdl} (h : FewM m) : okM m := ⟨fun t ht y hy => ((h.t.2 t ht).2.2 y hy).2,fun s hs => (h.s.2 s hs).2⟩
theorem take_le {α : Type} (l : List α) (n : Nat) : (l.take n).length ≤ n := by rw [List.length_take];exact Nat.min_le_left _ _
theorem take_min {α : Type} (l : List α) (n : Nat) : min l.length n = (l.take n).length := by rw [List.length_take,Nat.min_comm]
theorem snoc_all {α : Type} {q : α → Prop} {l : List α} {x : α} (h : ∀ y ∈ l,q y) (hx : q x) : ∀ y ∈ l ++ [x],q y := fun y hy => by
  rcases List.mem_append.1 hy with h1 | h1
  · exact h y h1
  · rw [List.mem_singleton] at h1;rw [h1];exact hx
theorem ins_first {x : Ins} {p : Option Addr} {c : Nat} {k : Part} (hc : x.l.length ≤ c) (ha : -9223372036854775808 ≤ x.a ∧ x.a ≤ 9223372036854775807) (h : InsV (x,p,c) k) : uT ({ x with l := x.l.take 10 },p,c) k := by
  have h1 := take_le x.l 10
  have h2 : (x.l.take 10).length ≤ x.l.length := by rw [List.length_take];exact Nat.min_le_right _ _
  refine ⟨⟨Nat.le_trans h2 hc,Nat.le_trans h1 (by decide),ha⟩,?_⟩
  have h3 := vw_cut (m := (x.l.take 10).length) (c := c) h2 k h
  have e : (ints x.l).take ((x.l.take 10).length * 1) = ints (x.l.take 10) := by
    unfold ints
    rw [Nat.mul_one,← List.map_take]
    congr 1
    rw [List.length_take,List.take_eq_take_iff];omega
  rw [e] at h3
  exact h3
theorem temR_in {ps : List Prm} {pa : SA} {ys : List YI} {ca : SA} {L : List HP} : Ent (Vw 3 (slc pa ps.length) ps.length (ps.flatMap tI) :: Vw 6 (slc ca ys.length) ys.length (ys.flatMap vC) :: yB uT ys :: L) (wS ⟨ps,pa,ys,ca,[],no0⟩ :: L) :=
  ent_conj (A := wS ⟨ps,pa,ys,ca,[],no0⟩) (M := [_,_,_]) (fun B hB => by
    simp only [List.mem_cons,List.not_mem_nil,or_false] at hB
    rcases hB with rfl | rfl | rfl
    · exact up_vw _ _ _ _
    · exact up_vw _ _ _ _
    · exact up_all up_insR _) fun k h => by
    simp only [List.mem_cons,List.not_mem_nil,or_false,forall_eq_or_imp,forall_eq] at h
    refine ⟨h.1,h.2.1,h.2.2,?_⟩
    rw [ints_nil];exact nil_vw 1 k
attribute [local irreducible] callFunc Go.method J JL JO JR JR1 JRl Ct JG JM JM1 JW JW1 JQ JQ0 JS CtD xB ints by8 chkA tJ yB uK wZ temO wJ staO sec1O sec2O sec3O
set_option synthInstance.maxHeartbeats 400000 in
set_option synthInstance.maxSize 2000 in
set_option maxHeartbeats 16000000 in
theorem few11_c (m : Mdl) (hc : CapM m) : Ct Tryz.prog 8 #[.agg (vN m).toArray] [RawR m] (RetE FewM (fun x => .agg (vN x).toArray) (fun x => [uK x])) := by
  obtain ⟨ns,⟨p1,k1⟩,ts,⟨p2,k2⟩,cs,⟨p3,k3⟩,ss,⟨p4,k4⟩,u1,u1a,u2,u2a,u3,u3a,u4,u4a⟩ := m
  obtain ⟨g1,g2,g3,g4⟩ := hc
  dsimp only at g1 g2 g3 g4
  refine Ct.heap ((rawR7 _).trans (Ent.sel (K := [Vw 6 (slc (p1,k1) ns.length) ns.length (ns.flatMap xR),yB wG ns,Vw 3 (slc (p2,k2) ts.length) ts.length (ts.flatMap wA),yB TemV ts,Vw 2 (slc (p3,k3) cs.length) cs.length (cs.flatMap yI),Vw 2 (slc (p4,k4) ss.length) ss.length (ss.flatMap vE),yB StaR ss]))) ?_
  refine yE (vs := [.agg [slc (p1,k1) ns.length,slc (p2,k2) ts.length,slc (p3,k3) cs.length,slc (p4,k4) ss.length,slc u1a u1.length,slc u2a u2.length,slc u3a u3.length,slc u4a u4.length].toArray]) Tryz.func8 rfl Tryz.ntmps8 (by simp) ?_
  repeat (first|(first|refine zB ?_|refine zE ?_|refine zG ?_)|(first|((first|refine zA rfl ?_);first|refine zC rfl rfl ?_|refine yN rfl rfl (fun r => ?_)|refine zS rfl (fun r => ?_))))
  rename_i n1 n2
  revert r
  intro n3
  repeat (first|(first|refine zB ?_)|(first|((first|refine zA rfl ?_);first|refine zD rfl rfl ?_)))
  refine uI (α := { z : List Nod × SA // z.1.length ≤ 70 ∧ ∀ x ∈ z.1,x.next.length ≤ 10 }) (fun z => [(1,ptr n1),(2,ptr n2),(3,ptr n3)]) (fun z => [Vw 6 (slc z.1.2 z.1.1.length) z.1.1.length (z.1.1.flatMap xR),yB wG z.1.1,pt n3 (.cells [slc z.1.2 z.1.1.length,slc no0 0,slc no0 0,slc no0 0,slc no0 0,slc no0 0,slc no0 0,slc no0 0].toArray 28 (0,0)),pt n1 (.cells [slc (p1,k1) ns.length,slc (p2,k2) ts.length,slc (p3,k3) cs.length,slc (p4,k4) ss.length,slc u1a u1.length,slc u2a u2.length,slc u3a u3.length,slc u4a u4.length].toArray 28 (0,0)),pt n2 (.cells (vN vH).toArray 28 (0,0)),Vw 6 (slc (p1,k1) ns.length) ns.length (ns.flatMap xR),yB wG ns,Vw 3 (slc (p2,k2) ts.length) ts.length (ts.flatMap wA),yB TemV ts,Vw 2 (slc (p3,k3) cs.length) cs.length (cs.flatMap yI),Vw 2 (slc (p4,k4) ss.length) ss.length (ss.flatMap vE),yB StaR ss]) ?_ ?_
  · repeat (first|(first|refine zK ?_)|(first|((first|refine zA rfl ?_);first|refine zD rfl rfl ?_)))
    refine xQ (all_nil (R := wG)) ?_
    refine xQ (own0 (e := 58) (sz := 6)) ?_
    refine xU (β := { z : Nat × (List Nod × Value) // z.1 ≤ 70 ∧ z.1 ≤ ns.length ∧ z.2.1.length = z.1 ∧ (∀ x ∈ z.2.1,x.next.length ≤ 10) ∧ z.2.2.oneCell' = true }) (fun z => [(1,ptr n1),(2,ptr n2),(3,ptr n3),(4,.int .i64 (z.1.1 : Int))]) (fun _ => []) (fun z => [yC 58 6 z.1.2.2 z.1.2.1.length (z.1.2.1.flatMap xR),yB wG z.1.2.1,pt n3 (.cells [z.1.2.2,slc no0 0,slc no0 0,slc no0 0,slc no0 0,slc no0 0,slc no0 0,slc no0 0].toArray 28 (0,0)),pt n1 (.cells [slc (p1,k1) ns.length,slc (p2,k2) ts.length,slc (p3,k3) cs.length,slc (p4,k4) ss.length,slc u1a u1.length,slc u2a u2.length,slc u3a u3.length,slc u4a u4.length].toArray 28 (0,0)),pt n2 (.cells (vN vH).toArray 28 (0,0)),Vw 6 (slc (p1,k1) ns.length) ns.length (ns.flatMap xR),yB wG ns,Vw 3 (slc (p2,k2) ts.length) ts.length (ts.flatMap wA),yB TemV ts,Vw 2 (slc (p3,k3) cs.length) cs.length (cs.flatMap yI),Vw 2 (slc (p4,k4) ss.length) ss.length (ss.flatMap vE),yB StaR ss]) (fun z => ns.length - z.1.1) ⟨(0,([],.slice none 0 0)),by simp only;omega,by simp only;omega,rfl,(fun _ h => by cases h),rfl⟩ ?_ rfl ?_ ?_
    · (repeat (first|exact zM _|refine zI rfl ?_))
    · simp only [List.flatMap_nil,List.length_nil]
      exact Ent.sel
    rintro ⟨⟨i,⟨ys,v⟩⟩,h1,h2,h3,h4,h5⟩
    dsimp only at h1 h2 h3 h4 h5 ⊢
    by_cases hi : i < ns.length ∧ i < 70
    · obtain ⟨hi1,hi2⟩ := hi
      obtain ⟨x,hx⟩ : ∃ x,ns[i]? = some x := ⟨_,List.getElem?_eq_getElem hi1⟩
      have hxm := List.mem_of_getElem? hx
      refine wE (φ := ∃ b o,p1 = some ⟨b,o,none⟩) (fun F w hs => (Ent.sel (K := [Vw 6 (slc (p1,k1) ns.length) ns.length (ns.flatMap xR)]) F w hs).tail.out (fun k hk => xW (by omega) k hk)) (fun hp => ?_)
      obtain ⟨q1,o1,rfl⟩ := hp
      obtain ⟨kind,prio,ch,⟨e1,e2⟩,next,⟨pn,kn⟩⟩ := x
      have gc : next.length ≤ kn := g1 _ hxm
      have hq := take_min next 10
      have hle : (next.take 10).length ≤ kn := by rw [List.length_take];omega
      refine J_all wG ns ⟨kind,prio,ch,(e1,e2),next,(pn,kn)⟩ pers_nodR hxm ?_
      refine wQ (wG ⟨kind,prio,ch,(e1,e2),next,(pn,kn)⟩) ?_
      refine xQ (ent_turn (B := wG ⟨kind,prio,ch,(e1,e2),next.take 10,(pn,kn)⟩) fun k hk => vw_first edgeC_len 10 k hk) ?_
      repeat (first|(first|refine zB ?_|refine zE ?_|refine zG ?_|refine zK ?_|refine zP ?_|refine zL rfl ?_)|(first|((first|refine zA rfl ?_|refine zZ rfl rfl ?_);first|refine JOq (yH rfl rfl (by omega)) rfl ?_|refine wI rfl rfl hi1 rfl ?_|refine JOq (xF (xR ⟨kind,prio,ch,(e1,e2),next,(pn,kn)⟩) rfl (fun u z hu => xG (b := q1) (o := o1) (n := ns.length) (cap := k1) (j := i) hi1 (by rw [yY nodC_len _ _ _ _ (by have := (List.getElem?_eq_some_iff.1 hu).1;exact this) hx];exact hu)) rfl) rfl ?_|refine zO rfl rfl (by rfl) (by rfl) (nod_one _) rfl ?_|refine JOq (JQ_minV hq rfl rfl) rfl ?_|refine JO_front (p := pn) (len := next.length) (cap := kn) (j := (next.take 10).length) rfl rfl hle rfl ?_|refine yP (n := 6) (vs := [.agg (xR ⟨kind,prio,ch,(e1,e2),next.take 10,(pn,kn)⟩).toArray]) (cs := xR ⟨kind,prio,ch,(e1,e2),next.take 10,(pn,kn)⟩) rfl rfl (hc := cat_agg1 6 (xR ⟨kind,prio,ch,(e1,e2),next.take 10,(pn,kn)⟩) rfl) rfl (by decide) rfl (fun r9 => ?_)|refine zD rfl rfl ?_|refine yF rfl rfl ?_|refine zF rfl rfl ?_|refine zH rfl rfl ?_|refine zU rfl (by rfl) rfl ?_|refine yA rfl rfl rfl ?_|refine zS rfl (fun r => ?_)|refine zW rfl rfl (by first | rfl | assumption) rfl ?_)))
      refine zA rfl (wM (sz := 6) (n := ys.length) (m := 1) (news := xR ⟨kind,prio,ch,(e1,e2),next.take 10,(pn,kn)⟩) rfl rfl wL rfl (by decide) rfl (nod_one _) (Nat.le_trans (Nat.mul_le_mul_right _ (show ys.length + 1 ≤ 1001 by omega)) (by decide)) (by decide) rfl fun v' hv' => ?_)
      repeat (first|(first|refine zB ?_|refine zE ?_)|(first|((first|refine zA rfl ?_);first|refine yZ (b := 1) rfl rfl (by omega) rfl ?_|refine zD rfl rfl ?_|refine zC rfl rfl ?_|refine zF rfl rfl ?_|refine zW rfl rfl (by first | rfl | assumption) rfl ?_)))
      refine ⟨⟨(i + 1,(ys ++ [⟨kind,prio,ch,(e1,e2),next.take 10,(pn,kn)⟩],v')),by simp only;omega,by simp only;omega,by simp only [List.length_append,List.length_singleton];omega,snoc_all h4 (take_le _ _),hv'⟩,by simp only;omega,by (repeat (first|exact zM _|refine zI rfl ?_)),rfl,?_⟩
      simp only [List.flatMap_append,List.flatMap_singleton,List.length_append,List.length_singleton]
      exact (Ent.sel (K := [yB wG ys,wG ⟨kind,prio,ch,(e1,e2),next.take 10,(pn,kn)⟩,yC 58 6 v' (ys.length + 1) (ys.flatMap xR ++ xR ⟨kind,prio,ch,(e1,e2),next.take 10,(pn,kn)⟩),pt n3 (.cells [v',slc no0 0,slc no0 0,slc no0 0,slc no0 0,slc no0 0,slc no0 0,slc no0 0].toArray 28 (0,0)),pt n1 (.cells [slc (some ⟨q1,o1,none⟩,k1) ns.length,slc (p2,k2) ts.length,slc (p3,k3) cs.length,slc (p4,k4) ss.length,slc u1a u1.length,slc u2a u2.length,slc u3a u3.length,slc u4a u4.length].toArray 28 (0,0)),pt n2 (.cells (vN vH).toArray 28 (0,0)),Vw 6 (slc (some ⟨q1,o1,none⟩,k1) ns.length) ns.length (ns.flatMap xR),yB wG ns,Vw 3 (slc (p2,k2) ts.length) ts.length (ts.flatMap wA),yB TemV ts,Vw 2 (slc (p3,k3) cs.length) cs.length (cs.flatMap yI),Vw 2 (slc (p4,k4) ss.length) ss.length (ss.flatMap vE),yB StaR ss])).trans ((all_snoc (fun n => up_vw _ _ _ _)).trans Ent.sel)
    refine wQ (yC 58 6 v ys.length (ys.flatMap xR)) ?_
    refine uU (fun w c hv hc => ?_)
    subst hv
    have fin : ∀ x ∈ ys,_ := h4
    by_cases hil : i < ns.length
    · have hlim : ¬ i < 70 := by omega
      repeat (first|(first|refine zB ?_|refine zE ?_|refine zG ?_|refine zJ rfl ?_|refine xA ?_)|(first|((first|refine zA rfl ?_|refine zZ rfl rfl ?_);first|refine JOq (yH rfl rfl (by omega)) rfl ?_|refine JOq (yS rfl rfl (by omega)) rfl ?_|refine zD rfl rfl ?_|refine yF rfl rfl ?_|refine zF rfl rfl ?_|refine zH rfl rfl ?_|refine yA rfl rfl rfl ?_)))
      exact ⟨⟨(ys,(w,c)),by simp only;omega,fin⟩,by (repeat (first|exact zM _|refine zI rfl ?_)),rfl,Ent.sel⟩
    · repeat (first|(first|refine zB ?_|refine zE ?_|refine zG ?_|refine zJ rfl ?_|refine xA ?_)|(first|((first|refine zA rfl ?_);first|refine JOq (yS rfl rfl (by omega)) rfl ?_|refine zD rfl rfl ?_|refine yF rfl rfl ?_|refine zF rfl rfl ?_|refine zH rfl rfl ?_|refine yJ rfl rfl rfl ?_)|refine yU rfl rfl rfl ?_))
      exact ⟨⟨(ys,(w,c)),by simp only;omega,fin⟩,by (repeat (first|exact zM _|refine zI rfl ?_)),rfl,Ent.sel⟩
  rintro ⟨⟨l1,a1⟩,f1,f1'⟩
  dsimp only [thn] at f1 f1' ⊢
  repeat (first|(first|refine zB ?_|refine zE ?_|refine zG ?_)|(first|((first|refine zA rfl ?_);first|refine zC rfl rfl ?_)))
  refine uI (α := { z : List Tem × SA // z.1.length ≤ 18 ∧ ∀ x ∈ z.1,x.params.length ≤ 10 ∧ x.code.length ≤ 30 ∧ ∀ y ∈ x.code,y.1.l.length ≤ 10 ∧ -9223372036854775808 ≤ y.1.a ∧ y.1.a ≤ 9223372036854775807 }) (fun z => [(1,ptr n1),(2,ptr n2),(3,ptr n3)]) (fun z => [Vw 3 (slc z.1.2 z.1.1.length) z.1.1.length (z.1.1.flatMap wA),yB wS z.1.1,pt n3 (.cells [slc a1 l1.length,slc z.1.2 z.1.1.length,slc no0 0,slc no0 0,slc no0 0,slc no0 0,slc no0 0,slc no0 0].toArray 28 (0,0)),Vw 6 (slc a1 l1.length) l1.length (l1.flatMap xR),yB wG l1,pt n1 (.cells [slc (p1,k1) ns.length,slc (p2,k2) ts.length,slc (p3,k3) cs.length,slc (p4,k4) ss.length,slc u1a u1.length,slc u2a u2.length,slc u3a u3.length,slc u4a u4.length].toArray 28 (0,0)),pt n2 (.cells (vN vH).toArray 28 (0,0)),Vw 6 (slc (p1,k1) ns.length) ns.length (ns.flatMap xR),yB wG ns,Vw 3 (slc (p2,k2) ts.length) ts.length (ts.flatMap wA),yB TemV ts,Vw 2 (slc (p3,k3) cs.length) cs.length (cs.flatMap yI),Vw 2 (slc (p4,k4) ss.length) ss.length (ss.flatMap vE),yB StaR ss]) ?_ ?_
  · repeat (first|(first|refine zK ?_)|(first|((first|refine zA rfl ?_);first|refine zD rfl rfl ?_)))
    refine xQ (all_nil (R := wS)) ?_
    refine xQ (own0 (e := 50) (sz := 3)) ?_
    refine xU (β := { z : Nat × (List Tem × Value) // z.1 ≤ 18 ∧ z.1 ≤ ts.length ∧ z.2.1.length = z.1 ∧ (∀ x ∈ z.2.1,x.params.length ≤ 10 ∧ x.code.length ≤ 30 ∧ ∀ y ∈ x.code,y.1.l.length ≤ 10 ∧ -9223372036854775808 ≤ y.1.a ∧ y.1.a ≤ 9223372036854775807) ∧ z.2.2.oneCell' = true }) (fun z => [(1,ptr n1),(2,ptr n2),(3,ptr n3),(6,.int .i64 (z.1.1 : Int))]) (fun _ => []) (fun z => [yC 50 3 z.1.2.2 z.1.2.1.length (z.1.2.1.flatMap wA),yB wS z.1.2.1,pt n3 (.cells [slc a1 l1.length,z.1.2.2,slc no0 0,slc no0 0,slc no0 0,slc no0 0,slc no0 0,slc no0 0].toArray 28 (0,0)),Vw 6 (slc a1 l1.length) l1.length (l1.flatMap xR),yB wG l1,pt n1 (.cells [slc (p1,k1) ns.length,slc (p2,k2) ts.length,slc (p3,k3) cs.length,slc (p4,k4) ss.length,slc u1a u1.length,slc u2a u2.length,slc u3a u3.length,slc u4a u4.length].toArray 28 (0,0)),pt n2 (.cells (vN vH).toArray 28 (0,0)),Vw 6 (slc (p1,k1) ns.length) ns.length (ns.flatMap xR),yB wG ns,Vw 3 (slc (p2,k2) ts.length) ts.length (ts.flatMap wA),yB TemV ts,Vw 2 (slc (p3,k3) cs.length) cs.length (cs.flatMap yI),Vw 2 (slc (p4,k4) ss.length) ss.length (ss.flatMap vE),yB StaR ss]) (fun z => ts.length - z.1.1) ⟨(0,([],.slice none 0 0)),by simp only;omega,by simp only;omega,rfl,(fun _ h => by cases h),rfl⟩ ?_ rfl ?_ ?_
    · (repeat (first|exact zM _|refine zI rfl ?_))
    · simp only [List.flatMap_nil,List.length_nil]
      exact Ent.sel
    rintro ⟨⟨i,⟨ys,v⟩⟩,h1,h2,h3,h4,h5⟩
    dsimp only at h1 h2 h3 h4 h5 ⊢
    by_cases hi : i < ts.length ∧ i < 18
    · obtain ⟨hi1,hi2⟩ := hi
      obtain ⟨x,hx⟩ : ∃ x,ts[i]? = some x := ⟨_,List.getElem?_eq_getElem hi1⟩
      have hxm := List.mem_of_getElem? hx
      refine wE (φ := ∃ b o,p2 = some ⟨b,o,none⟩) (fun F w hs => (Ent.sel (K := [Vw 3 (slc (p2,k2) ts.length) ts.length (ts.flatMap wA)]) F w hs).tail.out (fun k hk => xW (by omega) k hk)) (fun hp => ?_)
      obtain ⟨q2,o2,rfl⟩ := hp
      obtain ⟨params,⟨pp,kp⟩,code,⟨pc,kc⟩,wt,⟨pw,kw⟩⟩ := x
      obtain ⟨gc,gy⟩ := g2 _ hxm
      dsimp only at gc gy
      have hq := take_min params 10
      have hle : (params.take 10).length ≤ kp := by rw [List.length_take];omega
      refine J_allK TemV ts ⟨params,(pp,kp),code,(pc,kc),wt,(pw,kw)⟩ _ pers_temV hxm (temV_K _) ?_
      simp only [List.cons_append,List.nil_append]
      refine wQ (Vw 3 (slc (pp,kp) params.length) params.length (params.flatMap tI)) ?_
      refine xQ (ent_turn (B := Vw 3 (slc (pp,kp) (params.take 10).length) (params.take 10).length ((params.take 10).flatMap tI)) fun k hk => vw_first prmC_len 10 k hk) ?_
      repeat (first|(first|refine zB ?_|refine zE ?_|refine zG ?_|refine zK ?_|refine zP ?_|refine zL rfl ?_)|(first|((first|refine zA rfl ?_|refine zZ rfl rfl ?_);first|refine JOq (yH rfl rfl (by omega)) rfl ?_|refine zD rfl rfl ?_|refine yF rfl rfl ?_|refine zF rfl rfl ?_|refine zH rfl rfl ?_|refine yA rfl rfl rfl ?_)))
      refine uI (α := Nat) (fun r => [(1,ptr n1),(2,ptr n2),(3,ptr n3),(6,.int .i64 (i : Int)),(7,ptr r)]) (fun r => [pt r (.cells [slc (pp,kp) (params.take 10).length,slc no0 0,slc no0 0].toArray 50 (0,0)),Vw 3 (slc (pp,kp) (params.take 10).length) (params.take 10).length ((params.take 10).flatMap tI),Vw 6 (slc (pc,kc) code.length) code.length (code.flatMap vC),yB InsV code,yC 50 3 v ys.length (ys.flatMap wA),yB wS ys,pt n3 (.cells [slc a1 l1.length,v,slc no0 0,slc no0 0,slc no0 0,slc no0 0,slc no0 0,slc no0 0].toArray 28 (0,0)),Vw 6 (slc a1 l1.length) l1.length (l1.flatMap xR),yB wG l1,pt n1 (.cells [slc (p1,k1) ns.length,slc (some ⟨q2,o2,none⟩,k2) ts.length,slc (p3,k3) cs.length,slc (p4,k4) ss.length,slc u1a u1.length,slc u2a u2.length,slc u3a u3.length,slc u4a u4.length].toArray 28 (0,0)),pt n2 (.cells (vN vH).toArray 28 (0,0)),Vw 6 (slc (p1,k1) ns.length) ns.length (ns.flatMap xR),yB wG ns,Vw 3 (slc (some ⟨q2,o2,none⟩,k2) ts.length) ts.length (ts.flatMap wA),yB TemV ts,Vw 2 (slc (p3,k3) cs.length) cs.length (cs.flatMap yI),Vw 2 (slc (p4,k4) ss.length) ss.length (ss.flatMap vE),yB StaR ss]) ?_ ?_
      · refine tG none [Vw 3 (slc (pp,kp) (params.take 10).length) (params.take 10).length ((params.take 10).flatMap tI),Vw 6 (slc (pc,kc) code.length) code.length (code.flatMap vC),yB InsV code,yC 50 3 v ys.length (ys.flatMap wA),yB wS ys,pt n3 (.cells [slc a1 l1.length,v,slc no0 0,slc no0 0,slc no0 0,slc no0 0,slc no0 0,slc no0 0].toArray 28 (0,0)),Vw 6 (slc a1 l1.length) l1.length (l1.flatMap xR),yB wG l1,pt n1 (.cells [slc (p1,k1) ns.length,slc (some ⟨q2,o2,none⟩,k2) ts.length,slc (p3,k3) cs.length,slc (p4,k4) ss.length,slc u1a u1.length,slc u2a u2.length,slc u3a u3.length,slc u4a u4.length].toArray 28 (0,0)),pt n2 (.cells (vN vH).toArray 28 (0,0)),Vw 6 (slc (p1,k1) ns.length) ns.length (ns.flatMap xR),yB wG ns,Vw 3 (slc (some ⟨q2,o2,none⟩,k2) ts.length) ts.length (ts.flatMap wA),yB TemV ts,Vw 2 (slc (p3,k3) cs.length) cs.length (cs.flatMap yI),Vw 2 (slc (p4,k4) ss.length) ss.length (ss.flatMap vE),yB StaR ss] Ent.sel ?_
        repeat' (first|refine JW_fin rfl ?_|refine JW_n rfl rfl (by kernel_rfl) (by kernel_rfl) (by kernel_rfl) (by kernel_rfl) rfl (by first|exact JQ_index rfl rfl hi1|exact tC rfl (lds_eq (xG (u := slc (pp,kp) params.length) (b := q2) (o := o2) (n := ts.length) (cap := k2) (j := i) (i := 0) hi1 (by rw [yY temC_len _ _ _ _ (by decide) hx];rfl)) rfl)|exact JQ_minV hq rfl rfl|exact JQ_front (p := pp) (len := params.length) (cap := kp) (j := (params.take 10).length) rfl rfl hle|exact xE rfl|exact xL rfl|exact xP rfl|exact JQ_field rfl|exact JQ_len rfl) ?_|refine JW_only rfl ?_|refine JW_two rfl ?_ ?_|refine vV rfl rfl (yG (cs := [slc (pp,kp) (params.take 10).length,slc no0 0,slc no0 0]) rfl rfl rfl ⟨by first|exact (fun _ => Ent.sel),?_⟩)|refine vV rfl rfl (zO rfl rfl (by rfl) (by rfl) (by simp [Value.oneCell']) rfl ⟨by first|exact (fun _ => Ent.sel),?_⟩)|refine vV rfl rfl (zS rfl (fun r => ⟨by first|exact (fun _ => Ent.sel),?_⟩)))
        all_goals exact ⟨_,by (repeat (first|exact zM _|refine zI rfl ?_)),rfl,Ent.sel⟩
      rintro r7
      dsimp only [thn]
      repeat (first|(first|refine zB ?_|refine zE ?_|refine zG ?_)|(first|((first|refine zA rfl ?_);first|refine zC rfl rfl ?_)))
      refine uI (α := { z : List YI × SA // z.1.length ≤ 30 ∧ ∀ x ∈ z.1,x.1.l.length ≤ 10 ∧ -9223372036854775808 ≤ x.1.a ∧ x.1.a ≤ 9223372036854775807 }) (fun z => [(1,ptr n1),(2,ptr n2),(3,ptr n3),(6,.int .i64 (i : Int)),(7,ptr r7)]) (fun z => [pt r7 (.cells [slc (pp,kp) (params.take 10).length,slc z.1.2 z.1.1.length,slc no0 0].toArray 50 (0,0)),Vw 6 (slc z.1.2 z.1.1.length) z.1.1.length (z.1.1.flatMap vC),yB uT z.1.1,Vw 3 (slc (pp,kp) (params.take 10).length) (params.take 10).length ((params.take 10).flatMap tI),yC 50 3 v ys.length (ys.flatMap wA),yB wS ys,pt n3 (.cells [slc a1 l1.length,v,slc no0 0,slc no0 0,slc no0 0,slc no0 0,slc no0 0,slc no0 0].toArray 28 (0,0)),Vw 6 (slc a1 l1.length) l1.length (l1.flatMap xR),yB wG l1,pt n1 (.cells [slc (p1,k1) ns.length,slc (some ⟨q2,o2,none⟩,k2) ts.length,slc (p3,k3) cs.length,slc (p4,k4) ss.length,slc u1a u1.length,slc u2a u2.length,slc u3a u3.length,slc u4a u4.length].toArray 28 (0,0)),pt n2 (.cells (vN vH).toArray 28 (0,0)),Vw 6 (slc (p1,k1) ns.length) ns.length (ns.flatMap xR),yB wG ns,Vw 3 (slc (some ⟨q2,o2,none⟩,k2) ts.length) ts.length (ts.flatMap wA),yB TemV ts,Vw 2 (slc (p3,k3) cs.length) cs.length (cs.flatMap yI),Vw 2 (slc (p4,k4) ss.length) ss.length (ss.flatMap vE),yB StaR ss]) ?_ ?_
      · repeat (first|(first|refine zK ?_)|(first|((first|refine zA rfl ?_);first|refine zD rfl rfl ?_)))
        refine xQ (all_nil (R := uT)) ?_
        refine xQ (own0 (e := 52) (sz := 6)) ?_
        refine xU (β := { z : Nat × (List YI × Value) // z.1 ≤ 30 ∧ z.1 ≤ code.length ∧ z.2.1.length = z.1 ∧ (∀ x ∈ z.2.1,x.1.l.length ≤ 10 ∧ -9223372036854775808 ≤ x.1.a ∧ x.1.a ≤ 9223372036854775807) ∧ z.2.2.oneCell' = true }) (fun z => [(1,ptr n1),(2,ptr n2),(3,ptr n3),(6,.int .i64 (i : Int)),(7,ptr r7),(8,.int .i64 (z.1.1 : Int))]) (fun _ => []) (fun z => [yC 52 6 z.1.2.2 z.1.2.1.length (z.1.2.1.flatMap vC),yB uT z.1.2.1,pt r7 (.cells [slc (pp,kp) (params.take 10).length,z.1.2.2,slc no0 0].toArray 50 (0,0)),Vw 6 (slc (pc,kc) code.length) code.length (code.flatMap vC),yB InsV code,Vw 3 (slc (pp,kp) (params.take 10).length) (params.take 10).length ((params.take 10).flatMap tI),yC 50 3 v ys.length (ys.flatMap wA),yB wS ys,pt n3 (.cells [slc a1 l1.length,v,slc no0 0,slc no0 0,slc no0 0,slc no0 0,slc no0 0,slc no0 0].toArray 28 (0,0)),Vw 6 (slc a1 l1.length) l1.length (l1.flatMap xR),yB wG l1,pt n1 (.cells [slc (p1,k1) ns.length,slc (some ⟨q2,o2,none⟩,k2) ts.length,slc (p3,k3) cs.length,slc (p4,k4) ss.length,slc u1a u1.length,slc u2a u2.length,slc u3a u3.length,slc u4a u4.length].toArray 28 (0,0)),pt n2 (.cells (vN vH).toArray 28 (0,0)),Vw 6 (slc (p1,k1) ns.length) ns.length (ns.flatMap xR),yB wG ns,Vw 3 (slc (some ⟨q2,o2,none⟩,k2) ts.length) ts.length (ts.flatMap wA),yB TemV ts,Vw 2 (slc (p3,k3) cs.length) cs.length (cs.flatMap yI),Vw 2 (slc (p4,k4) ss.length) ss.length (ss.flatMap vE),yB StaR ss]) (fun z => code.length - z.1.1) ⟨(0,([],.slice none 0 0)),by simp only;omega,by simp only;omega,rfl,(fun _ h => by cases h),rfl⟩ ?_ rfl ?_ ?_
        · (repeat (first|exact zM _|refine zI rfl ?_))
        · simp only [List.flatMap_nil,List.length_nil]
          exact Ent.sel
        rintro ⟨⟨j,⟨zs,u⟩⟩,h1y,h2y,h3y,h4y,h5y⟩
        dsimp only at h1y h2y h3y h4y h5y ⊢
        by_cases hiy : j < code.length ∧ j < 30
        · obtain ⟨hiy1,hiy2⟩ := hiy
          obtain ⟨y,hxy⟩ : ∃ x,code[j]? = some x := ⟨_,List.getElem?_eq_getElem hiy1⟩
          have hxmy := List.mem_of_getElem? hxy
          refine wE (φ := ∃ b o,pc = some ⟨b,o,none⟩) (fun F w hs => (Ent.sel (K := [Vw 6 (slc (pc,kc) code.length) code.length (code.flatMap vC)]) F w hs).tail.out (fun k hk => xW (by omega) k hk)) (fun hp => ?_)
          obtain ⟨q4,o4,rfl⟩ := hp
          obtain ⟨⟨op,a,b,c,d,l⟩,⟨py,ky⟩⟩ := y
          obtain ⟨gl,ga⟩ := gy _ hxmy
          dsimp only at gl ga
          have hql := take_min l 10
          have hlel : (l.take 10).length ≤ ky := by rw [List.length_take];omega
          refine J_all InsV code (⟨op,a,b,c,d,l⟩,py,ky) pers_insV hxmy ?_
          refine wQ (InsV (⟨op,a,b,c,d,l⟩,py,ky)) ?_
          refine xQ (ent_turn (B := uT (⟨op,a,b,c,d,l.take 10⟩,py,ky)) fun k hk => ins_first gl ga hk) ?_
          repeat (first|(first|refine zB ?_|refine zE ?_|refine zG ?_|refine zK ?_|refine zP ?_|refine zL rfl ?_)|(first|((first|refine zA rfl ?_|refine zZ rfl rfl ?_);first|refine JOq (yH rfl rfl (by omega)) rfl ?_|refine wI rfl rfl hi1 rfl ?_|refine wU rfl (xG (u := slc (some ⟨q4,o4,none⟩,kc) code.length) (b := q2) (o := o2) (n := ts.length) (cap := k2) (j := i) (i := 1) hi1 (by rw [yY temC_len _ _ _ _ (by decide) hx];rfl)) rfl ?_|refine wI rfl rfl hiy1 rfl ?_|refine JOq (xF [.int .i64 op,.int .i64 a,.int .i64 b,.int .i64 c,.int .i64 d,.slice py l.length ky] rfl (fun u z hu => xG (b := q4) (o := o4) (n := code.length) (cap := kc) (j := j) hiy1 (by rw [yY insC_len _ _ _ _ (by have := (List.getElem?_eq_some_iff.1 hu).1;exact this) hxy];exact hu)) rfl) rfl ?_|refine zO rfl rfl (by rfl) (by rfl) (by simp [Value.oneCell']) rfl ?_|refine JOq (JQ_minV hql rfl rfl) rfl ?_|refine JO_front (p := py) (len := l.length) (cap := ky) (j := (l.take 10).length) rfl rfl hlel rfl ?_|refine yP (n := 6) (vs := [.agg (vC (⟨op,a,b,c,d,l.take 10⟩,py,ky)).toArray]) (cs := vC (⟨op,a,b,c,d,l.take 10⟩,py,ky)) rfl rfl (hc := cat_agg1 6 (vC (⟨op,a,b,c,d,l.take 10⟩,py,ky)) rfl) rfl (by decide) rfl (fun r9 => ?_)|refine zD rfl rfl ?_|refine yF rfl rfl ?_|refine zF rfl rfl ?_|refine JO_field rfl rfl ?_|refine zH rfl rfl ?_|refine zU rfl (by rfl) rfl ?_|refine yA rfl rfl rfl ?_|refine zS rfl (fun r => ?_)|refine zW rfl rfl (by first | rfl | assumption) rfl ?_)))
          refine zA rfl (wM (sz := 6) (n := zs.length) (m := 1) (news := vC (⟨op,a,b,c,d,l.take 10⟩,py,ky)) rfl rfl wL rfl (by decide) rfl (ins_one' _) (Nat.le_trans (Nat.mul_le_mul_right _ (show zs.length + 1 ≤ 1001 by omega)) (by decide)) (by decide) rfl fun v' hv' => ?_)
          repeat (first|(first|refine zB ?_|refine zE ?_)|(first|((first|refine zA rfl ?_);first|refine yZ (b := 1) rfl rfl (by omega) rfl ?_|refine zD rfl rfl ?_|refine zC rfl rfl ?_|refine zF rfl rfl ?_|refine zW rfl rfl (by first | rfl | assumption) rfl ?_)))
          refine ⟨⟨(j + 1,(zs ++ [(⟨op,a,b,c,d,l.take 10⟩,py,ky)],v')),by simp only;omega,by simp only;omega,by simp only [List.length_append,List.length_singleton];omega,snoc_all h4y ⟨take_le _ _,ga⟩,hv'⟩,by simp only;omega,by (repeat (first|exact zM _|refine zI rfl ?_)),rfl,?_⟩
          simp only [List.flatMap_append,List.flatMap_singleton,List.length_append,List.length_singleton]
          exact (Ent.sel (K := [yB uT zs,uT (⟨op,a,b,c,d,l.take 10⟩,py,ky),yC 52 6 v' (zs.length + 1) (zs.flatMap vC ++ vC (⟨op,a,b,c,d,l.take 10⟩,py,ky)),pt r7 (.cells [slc (pp,kp) (params.take 10).length,v',slc no0 0].toArray 50 (0,0)),Vw 6 (slc (some ⟨q4,o4,none⟩,kc) code.length) code.length (code.flatMap vC),yB InsV code,Vw 3 (slc (pp,kp) (params.take 10).length) (params.take 10).length ((params.take 10).flatMap tI),yC 50 3 v ys.length (ys.flatMap wA),yB wS ys,pt n3 (.cells [slc a1 l1.length,v,slc no0 0,slc no0 0,slc no0 0,slc no0 0,slc no0 0,slc no0 0].toArray 28 (0,0)),Vw 6 (slc a1 l1.length) l1.length (l1.flatMap xR),yB wG l1,pt n1 (.cells [slc (p1,k1) ns.length,slc (some ⟨q2,o2,none⟩,k2) ts.length,slc (p3,k3) cs.length,slc (p4,k4) ss.length,slc u1a u1.length,slc u2a u2.length,slc u3a u3.length,slc u4a u4.length].toArray 28 (0,0)),pt n2 (.cells (vN vH).toArray 28 (0,0)),Vw 6 (slc (p1,k1) ns.length) ns.length (ns.flatMap xR),yB wG ns,Vw 3 (slc (some ⟨q2,o2,none⟩,k2) ts.length) ts.length (ts.flatMap wA),yB TemV ts,Vw 2 (slc (p3,k3) cs.length) cs.length (cs.flatMap yI),Vw 2 (slc (p4,k4) ss.length) ss.length (ss.flatMap vE),yB StaR ss])).trans ((all_snoc up_insR).trans Ent.sel)
        refine wQ (yC 52 6 u zs.length (zs.flatMap vC)) ?_
        refine uU (fun w c hv hc => ?_)
        subst hv
        have fin : ∀ x ∈ zs,_ := h4y
        by_cases hil : j < code.length
        · have hlim : ¬ j < 30 := by omega
          repeat (first|(first|refine zB ?_|refine zE ?_|refine zG ?_|refine zJ rfl ?_|refine xA ?_)|(first|((first|refine zA rfl ?_|refine zZ rfl rfl ?_);first|refine JOq (yH rfl rfl (by omega)) rfl ?_|refine JOq (yS rfl rfl (by omega)) rfl ?_|refine wI rfl rfl hi1 rfl ?_|refine wU rfl (xG (u := slc (pc,kc) code.length) (b := q2) (o := o2) (n := ts.length) (cap := k2) (j := i) (i := 1) hi1 (by rw [yY temC_len _ _ _ _ (by decide) hx];rfl)) rfl ?_|refine zD rfl rfl ?_|refine yF rfl rfl ?_|refine zF rfl rfl ?_|refine JO_field rfl rfl ?_|refine zH rfl rfl ?_|refine yA rfl rfl rfl ?_)))
          exact ⟨⟨(zs,(w,c)),by simp only;omega,fin⟩,by (repeat (first|exact zM _|refine zI rfl ?_)),rfl,Ent.sel⟩
        · repeat (first|(first|refine zB ?_|refine zE ?_|refine zG ?_|refine zJ rfl ?_|refine xA ?_)|(first|((first|refine zA rfl ?_);first|refine JOq (yS rfl rfl (by omega)) rfl ?_|refine wI rfl rfl hi1 rfl ?_|refine wU rfl (xG (u := slc (pc,kc) code.length) (b := q2) (o := o2) (n := ts.length) (cap := k2) (j := i) (i := 1) hi1 (by rw [yY temC_len _ _ _ _ (by decide) hx];rfl)) rfl ?_|refine zD rfl rfl ?_|refine yF rfl rfl ?_|refine zF rfl rfl ?_|refine JO_field rfl rfl ?_|refine zH rfl rfl ?_|refine yJ rfl rfl rfl ?_)|refine yU rfl rfl rfl ?_))
          exact ⟨⟨(zs,(w,c)),by simp only;omega,fin⟩,by (repeat (first|exact zM _|refine zI rfl ?_)),rfl,Ent.sel⟩
      rintro ⟨⟨zs,az⟩,fz,fz'⟩
      dsimp only [thn] at fz fz' ⊢
      refine xQ (Ent.trans (Ent.sel (K := [Vw 3 (slc (pp,kp) (params.take 10).length) (params.take 10).length ((params.take 10).flatMap tI),Vw 6 (slc az zs.length) zs.length (zs.flatMap vC),yB uT zs,pt r7 (.cells [slc (pp,kp) (params.take 10).length,slc az zs.length,slc no0 0].toArray 50 (0,0)),yC 50 3 v ys.length (ys.flatMap wA),yB wS ys,pt n3 (.cells [slc a1 l1.length,v,slc no0 0,slc no0 0,slc no0 0,slc no0 0,slc no0 0,slc no0 0].toArray 28 (0,0)),Vw 6 (slc a1 l1.length) l1.length (l1.flatMap xR),yB wG l1,pt n1 (.cells [slc (p1,k1) ns.length,slc (some ⟨q2,o2,none⟩,k2) ts.length,slc (p3,k3) cs.length,slc (p4,k4) ss.length,slc u1a u1.length,slc u2a u2.length,slc u3a u3.length,slc u4a u4.length].toArray 28 (0,0)),pt n2 (.cells (vN vH).toArray 28 (0,0)),Vw 6 (slc (p1,k1) ns.length) ns.length (ns.flatMap xR),yB wG ns,Vw 3 (slc (some ⟨q2,o2,none⟩,k2) ts.length) ts.length (ts.flatMap wA),yB TemV ts,Vw 2 (slc (p3,k3) cs.length) cs.length (cs.flatMap yI),Vw 2 (slc (p4,k4) ss.length) ss.length (ss.flatMap vE),yB StaR ss])) (temR_in (pa := (pp,kp)) (ca := az))) ?_
      repeat (first|(first|refine zB ?_)|(first|((first|refine zA rfl ?_);first|refine yP (n := 3) (vs := [.agg (wA ⟨params.take 10,(pp,kp),zs,az,[],no0⟩).toArray]) (cs := wA ⟨params.take 10,(pp,kp),zs,az,[],no0⟩) rfl rfl (hc := cat_agg1 3 (wA ⟨params.take 10,(pp,kp),zs,az,[],no0⟩) rfl) rfl (by decide) rfl (fun r9 => ?_)|refine xI rfl (by simp) rfl ?_|refine zF rfl rfl ?_|refine zH rfl rfl ?_)))
      refine zA rfl (wM (sz := 3) (n := ys.length) (m := 1) (news := wA ⟨params.take 10,(pp,kp),zs,az,[],no0⟩) rfl rfl wL rfl (by decide) rfl (tem_one _) (Nat.le_trans (Nat.mul_le_mul_right _ (show ys.length + 1 ≤ 1001 by omega)) (by decide)) (by decide) rfl fun v' hv' => ?_)
      repeat (first|(first|refine zB ?_|refine zE ?_)|(first|((first|refine zA rfl ?_);first|refine yZ (b := 1) rfl rfl (by omega) rfl ?_|refine zD rfl rfl ?_|refine zC rfl rfl ?_|refine zF rfl rfl ?_|refine zW rfl rfl (by first | rfl | assumption) rfl ?_)))
      refine ⟨⟨(i + 1,(ys ++ [⟨params.take 10,(pp,kp),zs,az,[],no0⟩],v')),by simp only;omega,by simp only;omega,by simp only [List.length_append,List.length_singleton];omega,snoc_all h4 ⟨take_le _ _,fz,fz'⟩,hv'⟩,by simp only;omega,by (repeat (first|exact zM _|refine zI rfl ?_)),rfl,?_⟩
      simp only [List.flatMap_append,List.flatMap_singleton,List.length_append,List.length_singleton]
      exact (Ent.sel (K := [yB wS ys,wS ⟨params.take 10,(pp,kp),zs,az,[],no0⟩,yC 50 3 v' (ys.length + 1) (ys.flatMap wA ++ wA ⟨params.take 10,(pp,kp),zs,az,[],no0⟩),pt n3 (.cells [slc a1 l1.length,v',slc no0 0,slc no0 0,slc no0 0,slc no0 0,slc no0 0,slc no0 0].toArray 28 (0,0)),Vw 6 (slc a1 l1.length) l1.length (l1.flatMap xR),yB wG l1,pt n1 (.cells [slc (p1,k1) ns.length,slc (some ⟨q2,o2,none⟩,k2) ts.length,slc (p3,k3) cs.length,slc (p4,k4) ss.length,slc u1a u1.length,slc u2a u2.length,slc u3a u3.length,slc u4a u4.length].toArray 28 (0,0)),pt n2 (.cells (vN vH).toArray 28 (0,0)),Vw 6 (slc (p1,k1) ns.length) ns.length (ns.flatMap xR),yB wG ns,Vw 3 (slc (some ⟨q2,o2,none⟩,k2) ts.length) ts.length (ts.flatMap wA),yB TemV ts,Vw 2 (slc (p3,k3) cs.length) cs.length (cs.flatMap yI),Vw 2 (slc (p4,k4) ss.length) ss.length (ss.flatMap vE),yB StaR ss])).trans ((all_snoc up_temR).trans Ent.sel)
    refine wQ (yC 50 3 v ys.length (ys.flatMap wA)) ?_
    refine uU (fun w c hv hc => ?_)
    subst hv
    have fin : ∀ x ∈ ys,_ := h4
    by_cases hil : i < ts.length
    · have hlim : ¬ i < 18 := by omega
      repeat (first|(first|refine zB ?_|refine zE ?_|refine zG ?_|refine zJ rfl ?_|refine xA ?_)|(first|((first|refine zA rfl ?_|refine zZ rfl rfl ?_);first|refine JOq (yH rfl rfl (by omega)) rfl ?_|refine JOq (yS rfl rfl (by omega)) rfl ?_|refine zD rfl rfl ?_|refine yF rfl rfl ?_|refine zF rfl rfl ?_|refine zH rfl rfl ?_|refine yA rfl rfl rfl ?_)))
      exact ⟨⟨(ys,(w,c)),by simp only;omega,fin⟩,by (repeat (first|exact zM _|refine zI rfl ?_)),rfl,Ent.sel⟩
    · repeat (first|(first|refine zB ?_|refine zE ?_|refine zG ?_|refine zJ rfl ?_|refine xA ?_)|(first|((first|refine zA rfl ?_);first|refine JOq (yS rfl rfl (by omega)) rfl ?_|refine zD rfl rfl ?_|refine yF rfl rfl ?_|refine zF rfl rfl ?_|refine zH rfl rfl ?_|refine yJ rfl rfl rfl ?_)|refine yU rfl rfl rfl ?_))
      exact ⟨⟨(ys,(w,c)),by simp only;omega,fin⟩,by (repeat (first|exact zM _|refine zI rfl ?_)),rfl,Ent.sel⟩
  rintro ⟨⟨l2,a2⟩,f2,f2'⟩
  dsimp only [thn] at f2 f2' ⊢
  have hqc := take_min cs 18
  have hqn : min cs.length 18 = (cs.take 18).length := by rw [List.length_take,Nat.min_comm]
  have hlc : (cs.take 18).length ≤ k3 := by rw [List.length_take];omega
  repeat (first|(first|refine zB ?_|refine zE ?_|refine zG ?_)|(first|((first|refine zA rfl ?_);first|refine JOq (JQ_minV hqn rfl rfl) rfl ?_|refine JO_front (p := p3) (len := cs.length) (cap := k3) (j := (cs.take 18).length) rfl rfl hlc rfl ?_|refine zC rfl rfl ?_|refine yF rfl rfl ?_|refine zF rfl rfl ?_|refine zH rfl rfl ?_|refine zW rfl rfl (by first | rfl | assumption) rfl ?_)))
  refine uI (α := { z : List Sta × SA // z.1.length ≤ 10 ∧ ∀ x ∈ z.1,x.args.length ≤ 10 ∧ ∀ p ∈ x.args,arOk p }) (fun z => [(1,ptr n1),(2,ptr n2),(3,ptr n3)]) (fun z => [Vw 2 (slc z.1.2 z.1.1.length) z.1.1.length (z.1.1.flatMap vE),yB StaQ z.1.1,pt n3 (.cells [slc a1 l1.length,slc a2 l2.length,slc (p3,k3) (cs.take 18).length,slc z.1.2 z.1.1.length,slc no0 0,slc no0 0,slc no0 0,slc no0 0].toArray 28 (0,0)),Vw 6 (slc a1 l1.length) l1.length (l1.flatMap xR),yB wG l1,Vw 3 (slc a2 l2.length) l2.length (l2.flatMap wA),yB wS l2,pt n1 (.cells [slc (p1,k1) ns.length,slc (p2,k2) ts.length,slc (p3,k3) cs.length,slc (p4,k4) ss.length,slc u1a u1.length,slc u2a u2.length,slc u3a u3.length,slc u4a u4.length].toArray 28 (0,0)),pt n2 (.cells (vN vH).toArray 28 (0,0)),Vw 6 (slc (p1,k1) ns.length) ns.length (ns.flatMap xR),yB wG ns,Vw 3 (slc (p2,k2) ts.length) ts.length (ts.flatMap wA),yB TemV ts,Vw 2 (slc (p3,k3) cs.length) cs.length (cs.flatMap yI),Vw 2 (slc (p4,k4) ss.length) ss.length (ss.flatMap vE),yB StaR ss]) ?_ ?_
  · repeat (first|(first|refine zK ?_)|(first|((first|refine zA rfl ?_);first|refine zD rfl rfl ?_)))
    refine xQ (all_nil (R := StaQ)) ?_
    refine xQ (own0 (e := 67) (sz := 2)) ?_
    refine xU (β := { z : Nat × (List Sta × Value) // z.1 ≤ 10 ∧ z.1 ≤ ss.length ∧ z.2.1.length = z.1 ∧ (∀ x ∈ z.2.1,x.args.length ≤ 10 ∧ ∀ p ∈ x.args,arOk p) ∧ z.2.2.oneCell' = true }) (fun z => [(1,ptr n1),(2,ptr n2),(3,ptr n3),(10,.int .i64 (z.1.1 : Int))]) (fun _ => []) (fun z => [yC 67 2 z.1.2.2 z.1.2.1.length (z.1.2.1.flatMap vE),yB StaQ z.1.2.1,pt n3 (.cells [slc a1 l1.length,slc a2 l2.length,slc (p3,k3) (cs.take 18).length,z.1.2.2,slc no0 0,slc no0 0,slc no0 0,slc no0 0].toArray 28 (0,0)),Vw 6 (slc a1 l1.length) l1.length (l1.flatMap xR),yB wG l1,Vw 3 (slc a2 l2.length) l2.length (l2.flatMap wA),yB wS l2,pt n1 (.cells [slc (p1,k1) ns.length,slc (p2,k2) ts.length,slc (p3,k3) cs.length,slc (p4,k4) ss.length,slc u1a u1.length,slc u2a u2.length,slc u3a u3.length,slc u4a u4.length].toArray 28 (0,0)),pt n2 (.cells (vN vH).toArray 28 (0,0)),Vw 6 (slc (p1,k1) ns.length) ns.length (ns.flatMap xR),yB wG ns,Vw 3 (slc (p2,k2) ts.length) ts.length (ts.flatMap wA),yB TemV ts,Vw 2 (slc (p3,k3) cs.length) cs.length (cs.flatMap yI),Vw 2 (slc (p4,k4) ss.length) ss.length (ss.flatMap vE),yB StaR ss]) (fun z => ss.length - z.1.1) ⟨(0,([],.slice none 0 0)),by simp only;omega,by simp only;omega,rfl,(fun _ h => by cases h),rfl⟩ ?_ rfl ?_ ?_
    · (repeat (first|exact zM _|refine zI rfl ?_))
    · simp only [List.flatMap_nil,List.length_nil]
      exact Ent.sel
    rintro ⟨⟨i,⟨ys,v⟩⟩,h1,h2,h3,h4,h5⟩
    dsimp only at h1 h2 h3 h4 h5 ⊢
    by_cases hi : i < ss.length ∧ i < 10
    · obtain ⟨hi1,hi2⟩ := hi
      obtain ⟨x,hx⟩ : ∃ x,ss[i]? = some x := ⟨_,List.getElem?_eq_getElem hi1⟩
      have hxm := List.mem_of_getElem? hx
      refine wE (φ := ∃ b o,p4 = some ⟨b,o,none⟩) (fun F w hs => (Ent.sel (K := [Vw 2 (slc (p4,k4) ss.length) ss.length (ss.flatMap vE)]) F w hs).tail.out (fun k hk => xW (by omega) k hk)) (fun hp => ?_)
      obtain ⟨q5,o5,rfl⟩ := hp
      obtain ⟨tm,args,⟨pa,ka⟩⟩ := x
      obtain ⟨gc,gy⟩ := g4 _ hxm
      dsimp only at gc gy
      have hq := take_min args 10
      have hle : (args.take 10).length ≤ ka := by rw [List.length_take];omega
      refine J_all StaR ss ⟨tm,args,(pa,ka)⟩ pers_staR' hxm ?_
      refine wQ (StaR ⟨tm,args,(pa,ka)⟩) ?_
      refine xQ (ent_turn (B := StaQ ⟨tm,args.take 10,(pa,ka)⟩) fun k hk => ⟨fun p hp => gy p (List.mem_of_mem_take hp),vw_first arC_len 10 k hk⟩) ?_
      repeat (first|(first|refine zB ?_|refine zE ?_|refine zG ?_|refine zK ?_|refine zP ?_|refine zL rfl ?_)|(first|((first|refine zA rfl ?_|refine zZ rfl rfl ?_);first|refine JOq (yH rfl rfl (by omega)) rfl ?_|refine wI rfl rfl hi1 rfl ?_|refine JOq (xF (vE ⟨tm,args,(pa,ka)⟩) rfl (fun u z hu => xG (b := q5) (o := o5) (n := ss.length) (cap := k4) (j := i) hi1 (by rw [yY staC_len _ _ _ _ (by have := (List.getElem?_eq_some_iff.1 hu).1;exact this) hx];exact hu)) rfl) rfl ?_|refine zO rfl rfl (by rfl) (by rfl) (sta_one _) rfl ?_|refine JOq (JQ_minV hq rfl rfl) rfl ?_|refine JO_front (p := pa) (len := args.length) (cap := ka) (j := (args.take 10).length) rfl rfl hle rfl ?_|refine yP (n := 2) (vs := [.agg (vE ⟨tm,args.take 10,(pa,ka)⟩).toArray]) (cs := vE ⟨tm,args.take 10,(pa,ka)⟩) rfl rfl (hc := cat_agg1 2 (vE ⟨tm,args.take 10,(pa,ka)⟩) rfl) rfl (by decide) rfl (fun r9 => ?_)|refine zD rfl rfl ?_|refine yF rfl rfl ?_|refine zF rfl rfl ?_|refine zH rfl rfl ?_|refine zU rfl (by rfl) rfl ?_|refine yA rfl rfl rfl ?_|refine zS rfl (fun r => ?_)|refine zW rfl rfl (by first | rfl | assumption) rfl ?_)))
      refine zA rfl (wM (sz := 2) (n := ys.length) (m := 1) (news := vE ⟨tm,args.take 10,(pa,ka)⟩) rfl rfl wL rfl (by decide) rfl (sta_one _) (Nat.le_trans (Nat.mul_le_mul_right _ (show ys.length + 1 ≤ 1001 by omega)) (by decide)) (by decide) rfl fun v' hv' => ?_)
      repeat (first|(first|refine zB ?_|refine zE ?_)|(first|((first|refine zA rfl ?_);first|refine yZ (b := 1) rfl rfl (by omega) rfl ?_|refine zD rfl rfl ?_|refine zC rfl rfl ?_|refine zF rfl rfl ?_|refine zW rfl rfl (by first | rfl | assumption) rfl ?_)))
      refine ⟨⟨(i + 1,(ys ++ [⟨tm,args.take 10,(pa,ka)⟩],v')),by simp only;omega,by simp only;omega,by simp only [List.length_append,List.length_singleton];omega,snoc_all h4 ⟨take_le _ _,fun p hp => gy p (List.mem_of_mem_take hp)⟩,hv'⟩,by simp only;omega,by (repeat (first|exact zM _|refine zI rfl ?_)),rfl,?_⟩
      simp only [List.flatMap_append,List.flatMap_singleton,List.length_append,List.length_singleton]
      exact (Ent.sel (K := [yB StaQ ys,StaQ ⟨tm,args.take 10,(pa,ka)⟩,yC 67 2 v' (ys.length + 1) (ys.flatMap vE ++ vE ⟨tm,args.take 10,(pa,ka)⟩),pt n3 (.cells [slc a1 l1.length,slc a2 l2.length,slc (p3,k3) (cs.take 18).length,v',slc no0 0,slc no0 0,slc no0 0,slc no0 0].toArray 28 (0,0)),Vw 6 (slc a1 l1.length) l1.length (l1.flatMap xR),yB wG l1,Vw 3 (slc a2 l2.length) l2.length (l2.flatMap wA),yB wS l2,pt n1 (.cells [slc (p1,k1) ns.length,slc (p2,k2) ts.length,slc (p3,k3) cs.length,slc (some ⟨q5,o5,none⟩,k4) ss.length,slc u1a u1.length,slc u2a u2.length,slc u3a u3.length,slc u4a u4.length].toArray 28 (0,0)),pt n2 (.cells (vN vH).toArray 28 (0,0)),Vw 6 (slc (p1,k1) ns.length) ns.length (ns.flatMap xR),yB wG ns,Vw 3 (slc (p2,k2) ts.length) ts.length (ts.flatMap wA),yB TemV ts,Vw 2 (slc (p3,k3) cs.length) cs.length (cs.flatMap yI),Vw 2 (slc (some ⟨q5,o5,none⟩,k4) ss.length) ss.length (ss.flatMap vE),yB StaR ss])).trans ((all_snoc up_staQ).trans Ent.sel)
    refine wQ (yC 67 2 v ys.length (ys.flatMap vE)) ?_
    refine uU (fun w c hv hc => ?_)
    subst hv
    have fin : ∀ x ∈ ys,_ := h4
    by_cases hil : i < ss.length
    · have hlim : ¬ i < 10 := by omega
      repeat (first|(first|refine zB ?_|refine zE ?_|refine zG ?_|refine zJ rfl ?_|refine xA ?_)|(first|((first|refine zA rfl ?_|refine zZ rfl rfl ?_);first|refine JOq (yH rfl rfl (by omega)) rfl ?_|refine JOq (yS rfl rfl (by omega)) rfl ?_|refine zD rfl rfl ?_|refine yF rfl rfl ?_|refine zF rfl rfl ?_|refine zH rfl rfl ?_|refine yA rfl rfl rfl ?_)))
      exact ⟨⟨(ys,(w,c)),by simp only;omega,fin⟩,by (repeat (first|exact zM _|refine zI rfl ?_)),rfl,Ent.sel⟩
    · repeat (first|(first|refine zB ?_|refine zE ?_|refine zG ?_|refine zJ rfl ?_|refine xA ?_)|(first|((first|refine zA rfl ?_);first|refine JOq (yS rfl rfl (by omega)) rfl ?_|refine zD rfl rfl ?_|refine yF rfl rfl ?_|refine zF rfl rfl ?_|refine zH rfl rfl ?_|refine yJ rfl rfl rfl ?_)|refine yU rfl rfl rfl ?_))
      exact ⟨⟨(ys,(w,c)),by simp only;omega,fin⟩,by (repeat (first|exact zM _|refine zI rfl ?_)),rfl,Ent.sel⟩
  rintro ⟨⟨l4,a4⟩,f4,f4'⟩
  dsimp only [thn] at f4 f4' ⊢
  refine wQ (Vw 2 (slc (p3,k3) cs.length) cs.length (cs.flatMap yI)) ?_
  refine xQ (ent_turn (B := Vw 2 (slc (p3,k3) (cs.take 18).length) (cs.take 18).length ((cs.take 18).flatMap yI)) fun k hk => vw_first edgeC_len 18 k hk) ?_
  refine xQ ((Ent.sel (K := [Vw 6 (slc a1 l1.length) l1.length (l1.flatMap xR),yB wG l1,Vw 3 (slc a2 l2.length) l2.length (l2.flatMap wA),yB wS l2,Vw 2 (slc (p3,k3) (cs.take 18).length) (cs.take 18).length ((cs.take 18).flatMap yI),Vw 2 (slc a4 l4.length) l4.length (l4.flatMap vE),yB StaQ l4,pt n3 (.cells [slc a1 l1.length,slc a2 l2.length,slc (p3,k3) (cs.take 18).length,slc a4 l4.length,slc no0 0,slc no0 0,slc no0 0,slc no0 0].toArray 28 (0,0)),pt n2 (.cells (vN vH).toArray 28 (0,0))])).trans freshR) ?_
  repeat (first|(first|refine zB ?_|refine zE ?_|refine zG ?_|refine zV ?_)|(first|((first|refine zA rfl ?_);first|refine zO rfl rfl (by rfl) (by rfl) (by simp [Value.oneCell']) rfl ?_|refine zU rfl (by rfl) rfl ?_)))
  refine ⟨rfl,_,wT (cs := vN (freshM l1 a1 l2 a2 (cs.take 18) (p3,k3) l4 a4)) rfl rfl rfl,[uK (freshM l1 a1 l2 a2 (cs.take 18) (p3,k3) l4 a4)],Ent.sel,(freshM l1 a1 l2 a2 (cs.take 18) (p3,k3) l4 a4),?_,rfl,rfl⟩
  exact ⟨⟨f1,f1'⟩,⟨f2,f2'⟩,take_le _ _,⟨f4,f4'⟩,rfl,rfl,rfl,rfl⟩
end Go.Proofs.YtickblndgihoeaaGreatDoor
