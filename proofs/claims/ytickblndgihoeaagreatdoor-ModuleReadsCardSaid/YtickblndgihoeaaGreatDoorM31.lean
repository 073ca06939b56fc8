/- Layer 11: a module, read. -/
import Derived.Test.YtickblndgihoeaaGreatDoorM26
import Derived.Test.YtickblndgihoeaaGreatDoorM30
set_option linter.unusedSimpArgs false
namespace Go.Proofs.YtickblndgihoeaaGreatDoor
open Go Go.Sp
noncomputable def wZ (s : List UInt8) : RO Mdl := if (tE s).1 ≠ 0 then .bad (tE s).1 (tE s).2 else
  (vR 0 64 uS (s1A s).part (s1A s).at_).bind fun z1 b1 p1 => (endR b1 p1).bind fun _ _ _ => (vR 0 16 temR (s2A s).part (s2A s).at_).bind fun z2 b2 p2 => (endR b2 p2).bind fun _ _ _ => (vR 0 16 wO (s3A s).part (s3A s).at_).bind fun z3 b3 p3 => (vR 0 8 staR b3 p3).bind fun z4 b4 p4 => (endR b4 p4).bind fun _ b p =>
    .ok ⟨z1.1,no0,z2.1,no0,z3.1,no0,z4.1,no0,z1.2,no0,z2.2,no0,z3.2,no0,z4.2,no0⟩ b p
def erM (m : Mdl) : Mdl := ⟨m.nodes.map erN,no0,m.temps.map erT,no0,m.chans,no0,m.starts.map erS,no0,m.nat,no0,m.tat,no0,m.cat,no0,m.sat,no0⟩
def TkP (r : RO Mdl) : Ending → List HP → Prop := fun e L => match r with
  | .ok m _ _ => ∃ m',erM m' = m ∧ e = .returned (.tuple #[.agg (vN m').toArray,.nilIface]) ∧ L = [uK m']
  | .bad c a => ∃ (qf : Nat) (cs : List Value),cs.length = 8 ∧ (∀ v ∈ cs,v.oneCell' = true) ∧ e = .returned (.tuple #[.agg cs.toArray,xH qf]) ∧ L = [Ft qf c a]
theorem many_mem {α : Type} {rd : Rdr α} : ∀ {n : Nat} {bs : List UInt8} {pl : Int} {z : List α × List Int} {bs' : List UInt8} {pl' : Int},vB rd n bs pl = .ok z bs' pl' → ∀ x ∈ z.1,∃ b p b' p',rd b p = .ok x b' p'
  | 0,bs,pl,z,bs',pl',h,x,hx => by cases h;cases hx
  | n + 1,bs,pl,z,bs',pl',h,x,hx => by
    have h : (rd bs pl).bind (fun x bs1 pl1 => (vB rd n bs1 pl1).bind fun z bs2 pl2 => .ok (x :: z.1,pl :: z.2) bs2 pl2) = .ok z bs' pl' := h
    cases h1 : rd bs pl with
    | bad c a => rw [h1] at h;cases h
    | ok y bs1 pl1 =>
      rw [h1,bind_ok] at h
      cases h2 : vB rd n bs1 pl1 with
      | bad c a => rw [h2] at h;cases h
      | ok z1 bs3 pl3 =>
        rw [h2] at h
        cases h
        rcases List.mem_cons.1 hx with rfl | hx
        · exact ⟨_,_,_,_,h1⟩
        · exact many_mem h2 x hx
theorem sev_mem {α : Type} {least most : Int} {rd : Rdr α} {bs : List UInt8} {pl : Int} {z : List α × List Int} {bs' : List UInt8} {pl' : Int} (h : vR least most rd bs pl = .ok z bs' pl') : ∀ x ∈ z.1,∃ b p b' p',rd b p = .ok x b' p' := by
  unfold vR at h
  cases h1 : uM most bs pl with
  | bad c a => rw [h1] at h;cases h
  | ok n bs1 pl1 =>
    rw [h1,bind_ok] at h
    split at h
    · cases h
    · exact many_mem h
theorem unfold_in' {n : Nat} (h : n < 18446744073709551616) : -9223372036854775808 ≤ uB n ∧ uB n ≤ 9223372036854775807 := by
  unfold uB
  split <;> omega
theorem arR_ok {bs bs' : List UInt8} {pl pl' : Int} {p : Ar} (h : arR bs pl = .ok p bs' pl') : arOk p := by
  unfold arR at h
  cases h1 : flagR bs pl with
  | bad c a => rw [h1] at h;cases h
  | ok ch b1 p1 =>
    rw [h1,bind_ok] at h
    cases ch with
    | true =>
      rw [if_pos rfl] at h
      cases h2 : uM 31 b1 p1 with
      | bad c a => rw [h2] at h;cases h
      | ok n b2 p2 => rw [h2] at h;cases h;exact ⟨by simp,by simp⟩
    | false =>
      rw [if_neg (by decide)] at h
      rcases wholeR_cases b1 p1 with ⟨_,_,h2⟩ | ⟨_,h2⟩
      · rw [h2] at h;cases h
      · rw [h2] at h
        cases h
        exact unfold_in' (uA_ok b1 p1).1
theorem staR_ok {bs bs' : List UInt8} {pl pl' : Int} {s : Sta} (h : staR bs pl = .ok s bs' pl') : ∀ p ∈ s.args,arOk p := by
  unfold staR at h
  cases h1 : uM 15 bs pl with
  | bad c a => rw [h1] at h;cases h
  | ok n b1 p1 =>
    rw [h1,bind_ok] at h
    cases h2 : vR 0 8 arR b1 p1 with
    | bad c a => rw [h2] at h;cases h
    | ok z b2 p2 =>
      rw [h2] at h
      cases h
      intro p hp
      obtain ⟨_,_,_,_,h3⟩ := sev_mem h2 p hp
      exact arR_ok h3
theorem up_staQ (s : Sta) : Up (StaQ s) := fun k k' hl h => ⟨h.1,up_vw _ _ _ _ k k' hl h.2⟩
theorem up_modK (m : Mdl) : ∀ A ∈ modK m,Up A := by
  intro A hA
  simp only [modK,List.mem_cons,List.not_mem_nil,or_false] at hA
  rcases hA with rfl | rfl | rfl | rfl | rfl | rfl | rfl | rfl | rfl | rfl | rfl
  · exact up_vw _ _ _ _
  · exact up_all up_nodR _
  · exact up_vw _ _ _ _
  · exact up_all up_temR _
  · exact up_vw _ _ _ _
  · exact up_vw _ _ _ _
  · exact up_all up_staQ _
  · exact up_vw _ _ _ _
  · exact up_vw _ _ _ _
  · exact up_vw _ _ _ _
  · exact up_vw _ _ _ _
theorem modR_join {m : Mdl} {L : List HP} : Ent (modK m ++ L) (uK m :: L) := ent_conj (up_modK m) fun _ h => h
attribute [local irreducible] callFunc Go.method J JL JO JR JR1 JRl Ct JG JM JM1 JW JW1 JQ JQ0 JS CtD xB RdB Er by8 Gl Emp uA smA ints yB vB vR wO uM flagR wholeR SevR uE uT uK wS uS temR staR wZ tE s1A s2A s3A
theorem whole3_ok (x : Nat × Nat × Nat) : Ct Tryz.prog 86 #[ptr3 x,.nilIface] [] (wF (ptr3 x) []) := by
  refine yE (vs := [.agg [ptr x.1,ptr x.2.1,ptr x.2.2].toArray,_]) Tryz.func86 rfl Tryz.ntmps86 (by simp) ?_
  repeat (first|(first|refine zB ?_|refine zE ?_|refine zG ?_|refine zP ?_|refine zJ rfl ?_|refine zV ?_)|(first|((first|refine zA rfl ?_);first|refine JOq (uJ rfl) rfl ?_|refine zO rfl rfl (by rfl) (by rfl) (by simp [Value.oneCell']) rfl ?_|refine zD rfl rfl ?_|refine zU rfl (by rfl) rfl ?_|refine yN rfl rfl (fun r => ?_)|refine zS rfl (fun r => ?_))))
  exact ⟨rfl,_,wT rfl rfl rfl,_,Ent.nil,rfl,rfl⟩
theorem whole3_bad (q : Nat) : Ct Tryz.prog 86 #[nil3,xH q] [] (PanF q) := by
  refine yE (vs := [_,_]) Tryz.func86 rfl Tryz.ntmps86 (by simp) ?_
  repeat (first|(first|refine zB ?_|refine zE ?_|refine zG ?_|refine zL rfl ?_)|(first|((first|refine zA rfl ?_);first|refine JOq (JQ_neIf1 rfl) rfl ?_|refine yG (cs := [xH q]) rfl rfl rfl ?_|refine JO_panic rfl ?_|refine zD rfl rfl ?_|refine yN rfl rfl (fun r => ?_)|refine zS rfl (fun r => ?_)|refine vD (by simp) rfl rfl ?_)))
  exact ⟨rfl,_,.nil,rfl,rfl⟩
theorem taken11_bad (s : List UInt8) (hs : s.length ≤ 1000000) (hz : (tE s).1 ≠ 0) : Ct Tryz.prog 35 #[str s] [] (TkP (wZ s)) := by
  have c1 := split_bad s hs hz
  have h0 : wZ s = .bad (tE s).1 (tE s).2 := by unfold wZ;rw [if_pos hz]
  refine fn_retD (vs := [_]) Tryz.func35 rfl Tryz.ntmps35 (by simp) ?_
  repeat (first|(first|refine zB ?_|refine zE ?_|refine zG ?_)|(first|((first|refine zA rfl ?_);first|refine JO_defer rfl ?_|refine yK rfl c1 rfl (fun q _ => ?_)|refine zD rfl rfl ?_|refine zT rfl rfl rfl ?_|refine zS rfl (fun r => ?_)|refine tL (by rfl) rfl (fun r => ?_))))
  refine zA rfl (JO_callPF rfl (whole3_bad _) rfl ?_)
  refine leavesU_p _ (xH _) rfl fun r => ?_
  refine ⟨_,uO rfl (yV (n := 8) rfl rfl) (gives_1 rfl rfl),[Ft q (tE s).1 (tE s).2],Ent.sel,?_⟩
  rw [h0]
  exact ⟨q,_,rfl,by simp [Value.oneCell'],rfl,rfl⟩
set_option maxHeartbeats 4000000 in
theorem taken11_ok (s : List UInt8) (hs : s.length ≤ 1000000) (hz : (tE s).1 = 0) : Ct Tryz.prog 35 #[str s] [] (TkP (wZ s)) := by
  have c0 := split_ok s hs hz
  obtain ⟨q1,q2,q3⟩ := spl_parts hs hz
  refine fn_retD (vs := [_]) Tryz.func35 rfl Tryz.ntmps35 (by simp) ?_
  repeat (first|(first|refine zB ?_|refine zE ?_|refine zG ?_)|(first|((first|refine zA rfl ?_);first|refine JO_defer rfl ?_|refine yK rfl c0 rfl (fun x _ => ?_)|refine zD rfl rfl ?_|refine zT rfl rfl rfl ?_|refine zS rfl (fun r => ?_)|refine tL (by rfl) rfl (fun r => ?_))))
  obtain ⟨r1,r2,r3⟩ := x
  have cw := whole3_ok (r1,r2,r3)
  refine JL_heap emp_in ?_
  repeat (first|(first|refine zB ?_|refine zE ?_|refine zG ?_)|(first|((first|refine zA rfl ?_);first|refine JOq (yR 0 (j := 0) rfl rfl (by decide) rfl) rfl ?_|refine JOq (yR 1 (j := 1) rfl rfl (by decide) rfl) rfl ?_|refine JOq (yR 2 (j := 2) rfl rfl (by decide) rfl) rfl ?_|refine yG (cs := [ptr r1]) rfl rfl rfl ?_|refine zO rfl rfl (by rfl) (by rfl) (by simp [Value.oneCell']) rfl ?_|refine zH rfl rfl ?_|refine zU rfl (by rfl) rfl ?_|refine zS rfl (fun r => ?_)|refine wP rfl rfl rfl ?_|refine zR rfl (cw) rfl ?_)))
  have c1 := severalNode_c xR erN wG uS (f := 88) [rdg r1] [] Emp (fun _ => rfl) nod_one up_nodR good_node r1 (fun b p h => rnode11_c r1 b p h) 0 64 (by decide) (s1A s).part (s1A s).at_ (by omega)
  refine zA rfl (wR rfl c1 rfl (fun x1 bs1 pl1 y1 g1 hy1 => ?_) (fun c a qf g1 => by exact leavesU_p _ (xH qf) rfl fun r => ⟨_,uO rfl (yV (n := 8) rfl rfl) (gives_1 rfl rfl),[Ft qf c a],Ent.sel,by rw [show wZ s = .bad c a by unfold wZ;simp [hz,g1]];exact ⟨qf,_,rfl,by simp [Value.oneCell'],rfl,rfl⟩⟩))
  have p1 := good_sev good_node _ _ _ _ _ g1
  obtain ⟨ys1,a1,at1,ta1⟩ := y1
  repeat (first|(first|refine zB ?_|refine zE ?_|refine zG ?_)|(first|((first|refine zA rfl ?_);first|refine zD rfl rfl ?_|refine zF rfl rfl ?_|refine zU rfl (by rfl) rfl ?_|refine zT rfl rfl rfl ?_|refine zW rfl rfl (by first | rfl | assumption) rfl ?_)))
  have c2 := rend11_c r1 bs1 pl1
  refine zA rfl (wR rfl c2 rfl (fun x2 bs2 pl2 y2 g2 hy2 => ?_) (fun c a qf g2 => by exact leavesU_p _ (xH qf) rfl fun r => ⟨_,uO rfl (yV (n := 8) rfl rfl) (gives_1 rfl rfl),[Ft qf c a],Ent.sel,by rw [show wZ s = .bad c a by unfold wZ;simp [hz,g1,g2]];exact ⟨qf,_,rfl,by simp [Value.oneCell'],rfl,rfl⟩⟩))
  repeat (first|(first|refine zB ?_|refine zE ?_|refine zG ?_)|(first|((first|refine zA rfl ?_);first|refine JOq (yR 0 (j := 0) rfl rfl (by decide) rfl) rfl ?_|refine JOq (yR 1 (j := 1) rfl rfl (by decide) rfl) rfl ?_|refine JOq (yR 2 (j := 2) rfl rfl (by decide) rfl) rfl ?_|refine yG (cs := [ptr r2]) rfl rfl rfl ?_|refine zO rfl rfl (by rfl) (by rfl) (by simp [Value.oneCell']) rfl ?_|refine zH rfl rfl ?_|refine zU rfl (by rfl) rfl ?_|refine wP rfl rfl rfl ?_)))
  have c3 := severalTemplate_c wA erT wS temR (f := 91) [rdg r2] [] Emp (fun _ => rfl) tem_one up_temR good_tem r2 (fun b p h => rtem11_c r2 b p h) 0 16 (by decide) (s2A s).part (s2A s).at_ (by omega)
  refine zA rfl (wR rfl c3 rfl (fun x3 bs3 pl3 y3 g3 hy3 => ?_) (fun c a qf g3 => by exact leavesU_p _ (xH qf) rfl fun r => ⟨_,uO rfl (yV (n := 8) rfl rfl) (gives_1 rfl rfl),[Ft qf c a],Ent.sel,by rw [show wZ s = .bad c a by unfold wZ;simp [hz,g1,g2,g3]];exact ⟨qf,_,rfl,by simp [Value.oneCell'],rfl,rfl⟩⟩))
  have p3 := good_sev good_tem _ _ _ _ _ g3
  obtain ⟨ys3,a3,at3,ta3⟩ := y3
  repeat (first|(first|refine zB ?_|refine zE ?_|refine zG ?_)|(first|((first|refine zA rfl ?_);first|refine zD rfl rfl ?_|refine zF rfl rfl ?_|refine zU rfl (by rfl) rfl ?_|refine zT rfl rfl rfl ?_|refine zW rfl rfl (by first | rfl | assumption) rfl ?_)))
  have c4 := rend11_c r2 bs3 pl3
  refine zA rfl (wR rfl c4 rfl (fun x4 bs4 pl4 y4 g4 hy4 => ?_) (fun c a qf g4 => by exact leavesU_p _ (xH qf) rfl fun r => ⟨_,uO rfl (yV (n := 8) rfl rfl) (gives_1 rfl rfl),[Ft qf c a],Ent.sel,by rw [show wZ s = .bad c a by unfold wZ;simp [hz,g1,g2,g3,g4]];exact ⟨qf,_,rfl,by simp [Value.oneCell'],rfl,rfl⟩⟩))
  repeat (first|(first|refine zB ?_|refine zE ?_|refine zG ?_)|(first|((first|refine zA rfl ?_);first|refine JOq (yR 0 (j := 0) rfl rfl (by decide) rfl) rfl ?_|refine JOq (yR 1 (j := 1) rfl rfl (by decide) rfl) rfl ?_|refine JOq (yR 2 (j := 2) rfl rfl (by decide) rfl) rfl ?_|refine yG (cs := [ptr r3]) rfl rfl rfl ?_|refine zO rfl rfl (by rfl) (by rfl) (by simp [Value.oneCell']) rfl ?_|refine zH rfl rfl ?_|refine zU rfl (by rfl) rfl ?_|refine wP rfl rfl rfl ?_)))
  have c5 := severalType_c yI id NoR wO (f := 93) [rdg r3] [] Emp (fun _ => rfl) edge_one up_noR good_edge r3 (fun b p h => rtyp11_c r3 b p h) 0 16 (by decide) (s3A s).part (s3A s).at_ (by omega)
  refine zA rfl (wR rfl c5 rfl (fun x5 bs5 pl5 y5 g5 hy5 => ?_) (fun c a qf g5 => by exact leavesU_p _ (xH qf) rfl fun r => ⟨_,uO rfl (yV (n := 8) rfl rfl) (gives_1 rfl rfl),[Ft qf c a],Ent.sel,by rw [show wZ s = .bad c a by unfold wZ;simp [hz,g1,g2,g3,g4,g5]];exact ⟨qf,_,rfl,by simp [Value.oneCell'],rfl,rfl⟩⟩))
  have p5 := good_sev good_edge _ _ _ _ _ g5
  obtain ⟨ys5,a5,at5,ta5⟩ := y5
  repeat (first|(first|refine zB ?_|refine zE ?_|refine zG ?_)|(first|((first|refine zA rfl ?_);first|refine zD rfl rfl ?_|refine zF rfl rfl ?_|refine zU rfl (by rfl) rfl ?_|refine zT rfl rfl rfl ?_|refine wP rfl rfl rfl ?_|refine zW rfl rfl (by first | rfl | assumption) rfl ?_)))
  have c6 := severalStart_c vE erS StaR staR (f := 95) [rdg r3] [] Emp (fun _ => rfl) sta_one up_staR good_sta r3 (fun b p h => rsta11_c r3 b p h) 0 8 (by decide) bs5 pl5 (by omega)
  refine zA rfl (wR rfl c6 rfl (fun x6 bs6 pl6 y6 g6 hy6 => ?_) (fun c a qf g6 => by exact leavesU_p _ (xH qf) rfl fun r => ⟨_,uO rfl (yV (n := 8) rfl rfl) (gives_1 rfl rfl),[Ft qf c a],Ent.sel,by rw [show wZ s = .bad c a by unfold wZ;simp [hz,g1,g2,g3,g4,g5,g6]];exact ⟨qf,_,rfl,by simp [Value.oneCell'],rfl,rfl⟩⟩))
  have p6 := good_sev good_sta _ _ _ _ _ g6
  obtain ⟨ys6,a6,at6,ta6⟩ := y6
  repeat (first|(first|refine zB ?_|refine zE ?_|refine zG ?_)|(first|((first|refine zA rfl ?_);first|refine zD rfl rfl ?_|refine zF rfl rfl ?_|refine zU rfl (by rfl) rfl ?_|refine zT rfl rfl rfl ?_|refine zW rfl rfl (by first | rfl | assumption) rfl ?_)))
  have c7 := rend11_c r3 bs6 pl6
  refine zA rfl (wR rfl c7 rfl (fun x7 bs7 pl7 y7 g7 hy7 => ?_) (fun c a qf g7 => by exact leavesU_p _ (xH qf) rfl fun r => ⟨_,uO rfl (yV (n := 8) rfl rfl) (gives_1 rfl rfl),[Ft qf c a],Ent.sel,by rw [show wZ s = .bad c a by unfold wZ;simp [hz,g1,g2,g3,g4,g5,g6,g7]];exact ⟨qf,_,rfl,by simp [Value.oneCell'],rfl,rfl⟩⟩))
  repeat (first|(first|refine zB ?_|refine zE ?_|refine zG ?_|refine zV ?_)|(first|((first|refine zA rfl ?_);first|refine zO rfl rfl (by rfl) (by rfl) (by simp [Value.oneCell']) rfl ?_|refine zU rfl (by rfl) rfl ?_|refine zW rfl rfl (by first | rfl | assumption) rfl ?_)))
  have h0 : wZ s = .ok (erM ⟨ys1,a1,ys3,a3,ys5,a5,ys6,a6,at1,ta1,at3,ta3,at5,ta5,at6,ta6⟩) bs7 pl7 := by
    unfold wZ
    simp [hz,g1,g2,g3,g4,g5,g6,g7,erM,← hy1,← hy3,← hy5,← hy6,sevE]
  have hsta : ∀ z ∈ ys6,∀ p ∈ z.args,arOk p := fun z hzm => by
    have hm : erS z ∈ x6.1 := by rw [← hy6];exact List.mem_map_of_mem hzm
    obtain ⟨_,_,_,_,h⟩ := sev_mem g6 _ hm
    exact staR_ok (s := erS z) h
  refine leavesU_r _ (uO rfl (yV (n := 8) rfl rfl) (gives_1 rfl rfl)) ⟨[uK ⟨ys1,a1,ys3,a3,ys5,a5,ys6,a6,at1,ta1,at3,ta3,at5,ta5,at6,ta6⟩],?_,by rw [h0];exact ⟨_,rfl,rfl,rfl⟩⟩
  refine (Ent.sel (K := [SevR 6 xR wG ⟨ys1,a1,at1,ta1⟩,SevR 3 wA wS ⟨ys3,a3,at3,ta3⟩,SevR 2 yI NoR ⟨ys5,a5,at5,ta5⟩,SevR 2 vE StaR ⟨ys6,a6,at6,ta6⟩])).trans ?_
  refine (sevR_rows pers_nodR).trans ?_
  refine (Ent.sel (K := [SevR 3 wA wS ⟨ys3,a3,at3,ta3⟩,Vw 6 (slc a1 ys1.length) ys1.length (ys1.flatMap xR),yB wG ys1,Vw 1 (slc ta1 at1.length) at1.length (ints at1),SevR 2 yI NoR ⟨ys5,a5,at5,ta5⟩,SevR 2 vE StaR ⟨ys6,a6,at6,ta6⟩])).trans ?_
  refine (sevR_rows pers_temR).trans ?_
  refine (Ent.sel (K := [SevR 2 yI NoR ⟨ys5,a5,at5,ta5⟩,Vw 6 (slc a1 ys1.length) ys1.length (ys1.flatMap xR),yB wG ys1,Vw 1 (slc ta1 at1.length) at1.length (ints at1),Vw 3 (slc a3 ys3.length) ys3.length (ys3.flatMap wA),yB wS ys3,Vw 1 (slc ta3 at3.length) at3.length (ints at3),SevR 2 vE StaR ⟨ys6,a6,at6,ta6⟩])).trans ?_
  refine (sevR_rows (fun _ => pers_emp)).trans ?_
  refine (Ent.sel (K := [SevR 2 vE StaR ⟨ys6,a6,at6,ta6⟩,Vw 6 (slc a1 ys1.length) ys1.length (ys1.flatMap xR),yB wG ys1,Vw 1 (slc ta1 at1.length) at1.length (ints at1),Vw 3 (slc a3 ys3.length) ys3.length (ys3.flatMap wA),yB wS ys3,Vw 1 (slc ta3 at3.length) at3.length (ints at3),Vw 2 (slc a5 ys5.length) ys5.length (ys5.flatMap yI),Vw 1 (slc ta5 at5.length) at5.length (ints at5)])).trans ?_
  refine (sevR_rows (fun s => vQ _ _ _ _)).trans ?_
  refine (Ent.sel (K := [yB StaR ys6,Vw 2 (slc a6 ys6.length) ys6.length (ys6.flatMap vE),Vw 1 (slc ta6 at6.length) at6.length (ints at6),Vw 6 (slc a1 ys1.length) ys1.length (ys1.flatMap xR),yB wG ys1,Vw 1 (slc ta1 at1.length) at1.length (ints at1),Vw 3 (slc a3 ys3.length) ys3.length (ys3.flatMap wA),yB wS ys3,Vw 1 (slc ta3 at3.length) at3.length (ints at3),Vw 2 (slc a5 ys5.length) ys5.length (ys5.flatMap yI),Vw 1 (slc ta5 at5.length) at5.length (ints at5)])).trans ?_
  refine (ent_turn (B := yB StaQ ys6) (fun k hk => by unfold yB at hk ⊢;exact fun z hzm => ⟨hsta z hzm,hk z hzm⟩)).trans ?_
  refine Ent.trans ?_ (modR_join (L := []))
  exact Ent.sel (K := [Vw 6 (slc a1 ys1.length) ys1.length (ys1.flatMap xR),yB wG ys1,Vw 3 (slc a3 ys3.length) ys3.length (ys3.flatMap wA),yB wS ys3,Vw 2 (slc a5 ys5.length) ys5.length (ys5.flatMap yI),Vw 2 (slc a6 ys6.length) ys6.length (ys6.flatMap vE),yB StaQ ys6,Vw 1 (slc ta1 at1.length) at1.length (ints at1),Vw 1 (slc ta3 at3.length) at3.length (ints at3),Vw 1 (slc ta5 at5.length) at5.length (ints at5),Vw 1 (slc ta6 at6.length) at6.length (ints at6)])
theorem taken11_c (s : List UInt8) (hs : s.length ≤ 1000000) : Ct Tryz.prog 35 #[str s] [] (TkP (wZ s)) := by
  by_cases hz : (tE s).1 = 0
  · exact taken11_ok s hs hz
  · exact taken11_bad s hs hz
theorem read11_ok (s : List UInt8) (hs : s.length ≤ 1000000) {m : Mdl} {bs : List UInt8} {pl : Int} (h : wZ s = .ok m bs pl) : Ct Tryz.prog 14 #[str s] [] (RetE (fun m' => erM m' = m) (fun m' => .tuple #[.agg (vN m').toArray,.nilIface]) (fun m' => [uK m'])) := by
  have c := taken11_c s hs
  rw [h] at c
  have c : Ct Tryz.prog 35 #[str s] [] (RetE (fun m' => erM m' = m) (fun m' => .tuple #[.agg (vN m').toArray,.nilIface]) (fun m' => [uK m'])) := Ct.mono c fun e L' ⟨m',h1,h2,h3⟩ => ⟨m',h1,h2,h3⟩
  refine yE (vs := [_]) Tryz.func14 rfl Tryz.ntmps14 (by simp) ?_
  repeat (first|(first|refine zB ?_|refine zE ?_|refine zG ?_|refine zP ?_|refine zJ rfl ?_|refine zV ?_)|(first|((first|refine zA rfl ?_);first|refine yK rfl c rfl (fun m' hm => ?_)|refine zO rfl rfl (by rfl) (by rfl) (by simp [Value.oneCell']) rfl ?_|refine JOq (uJ rfl) rfl ?_|refine zD rfl rfl ?_|refine zC rfl rfl ?_|refine zU rfl (by rfl) rfl ?_|refine zT rfl rfl rfl ?_|refine zS rfl (fun r => ?_))))
  exact ⟨rfl,_,res_ct rfl (yV (n := 8) rfl rfl) rfl,[uK m'],Ent.sel,m',hm,rfl,rfl⟩
abbrev vH : Mdl := ⟨[],no0,[],no0,[],no0,[],no0,[],no0,[],no0,[],no0,[],no0⟩
theorem read11_bad (s : List UInt8) (hs : s.length ≤ 1000000) {c a : Int} (h : wZ s = .bad c a) : Ct Tryz.prog 14 #[str s] [] (RetE (fun _ : Nat => True) (fun q => .tuple #[.agg (vN vH).toArray,xH q]) (fun q => [Ft q c a])) := by
  have ct := taken11_c s hs
  rw [h] at ct
  have ct : Ct Tryz.prog 35 #[str s] [] (RetE (fun x : Nat × List Value => x.2.length = 8 ∧ ∀ v ∈ x.2,v.oneCell' = true) (fun x => .tuple #[.agg x.2.toArray,xH x.1]) (fun x => [Ft x.1 c a])) := Ct.mono ct fun e L' ⟨q,cs,h1,h2,h3,h4⟩ => ⟨(q,cs),⟨h1,h2⟩,h3,h4⟩
  refine yE (vs := [_]) Tryz.func14 rfl Tryz.ntmps14 (by simp) ?_
  repeat (first|(first|refine zB ?_|refine zE ?_|refine zG ?_|refine zL rfl ?_|refine zV ?_)|(first|((first|refine zA rfl ?_);first|refine yK rfl ct rfl (fun x hx => ?_)|refine zO rfl rfl hx.1 (by rfl) hx.2 rfl ?_|refine zO rfl rfl (by rfl) (by rfl) (by simp [Value.oneCell']) rfl ?_|refine JOq (JQ_neIf1 rfl) rfl ?_|refine yG (cs := vN vH) rfl rfl rfl ?_|refine zD rfl rfl ?_|refine zC rfl rfl ?_|refine zT rfl rfl rfl ?_|refine zS rfl (fun r => ?_))))
  exact ⟨rfl,_,res_ct rfl (yV (n := 8) rfl rfl) rfl,[Ft x.1 c a],Ent.sel,x.1,trivial,rfl,rfl⟩
end Go.Proofs.YtickblndgihoeaaGreatDoor
