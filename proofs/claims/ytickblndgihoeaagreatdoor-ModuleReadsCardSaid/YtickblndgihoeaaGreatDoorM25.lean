/- Layer 11: reading nodes, parameters, arguments, starts, templates. -/
import Derived.Test.YtickblndgihoeaaGreatDoorM23
import Derived.Test.YtickblndgihoeaaGreatDoorM24
set_option linter.unusedSimpArgs false
namespace Go.Proofs.YtickblndgihoeaaGreatDoor
open Go Go.Sp
abbrev no0 : SA := (none,0)
def uS : Rdr Nod := fun bs pl => (uM 5 bs pl).bind fun k bs pl =>
  if k = 0 then .ok ⟨0,0,false,(0,0),[],no0⟩ bs pl
  else if k = 3 ∨ k = 4 then (uM 1000 bs pl).bind fun p bs pl => (vR 1 8 wO bs pl).bind fun z bs pl => .ok ⟨(k : Int),(p : Int),false,(0,0),z.1,no0⟩ bs pl
  else if k = 1 ∨ k = 2 then (uM 1000 bs pl).bind fun p bs pl => (flagR bs pl).bind fun ch bs pl => (if ch then wO bs pl else .ok (0,0) bs pl).bind fun pay bs pl => (wO bs pl).bind fun e bs pl => .ok ⟨(k : Int),(p : Int),ch,pay,[e],no0⟩ bs pl
  else (wO bs pl).bind fun e bs pl => .ok ⟨(k : Int),0,false,(0,0),[e],no0⟩ bs pl
def erN (n : Nod) : Nod := { n with a := no0 }
theorem good_if {α : Type} {p : Prop} [Decidable p] {r s : Rdr α} (hr : GoodR r) (hs : GoodR s) : GoodR (fun bs pl => if p then r bs pl else s bs pl) := fun bs pl x bs' pl' h => by
  dsimp only at h
  split at h
  · exact hr _ _ _ _ _ h
  · exact hs _ _ _ _ _ h
theorem good_node : GoodR uS := (uN 5).bind fun k => good_if GoodR.pure (good_if ((uN 1000).bind fun _ => (good_sev good_edge).bind fun _ => GoodR.pure) (good_if ((uN 1000).bind fun _ => good_flag.bind fun ch => GoodR.bind (r := fun bs pl => if ch then wO bs pl else .ok (0,0) bs pl) (good_if good_edge GoodR.pure) fun _ => good_edge.bind fun _ => GoodR.pure) (good_edge.bind fun _ => GoodR.pure)))
theorem vw00 {sz : Nat} {e : Nat} {L : List HP} : Ent L (Vw sz (.slice none 0 0) 0 [] :: L) := (own0 (e := e) (sz := sz)).trans ent_freeze
theorem up_emp : Up Emp := fun _ _ _ _ => trivial
theorem up_noR {β : Type} (y : β) : Up (NoR y) := up_emp
theorem sevR_rows {β : Type} {sz : Nat} {c : β → List Value} {R : β → HP} {y : SevY β} {L : List HP} (h : ∀ y,Pers (R y)) : Ent (SevR sz c R y :: L) (Vw sz (slc y.a1 y.ys.length) y.ys.length (y.ys.flatMap c) :: yB R y.ys :: Vw 1 (slc y.a2 y.at_.length) y.at_.length (ints y.at_) :: L) :=
  ent_split (M := [_,_,_]) fun k hk => star_pers fun A hA => by
    simp only [List.mem_cons,List.not_mem_nil,or_false] at hA
    rcases hA with rfl | rfl | rfl
    · exact ⟨vQ _ _ _ _,hk.2.1⟩
    · exact ⟨pers_all h _,hk.2.2.1⟩
    · exact ⟨vQ _ _ _ _,hk.2.2.2⟩
theorem row_one {r e : Nat} {x : Int × Int} {L : List HP} : Ent (pt r (.cells (yI x).toArray e (0,0)) :: L) (Vw 2 (.slice (some ⟨r,0,none⟩) 1 1) 1 (yI x) :: L) := (ent_own (sz := 2) rfl (by decide) (by decide) rfl).trans ent_freeze
theorem pers_emp : Pers Emp := fun _ _ => trivial
theorem up_nodR (n : Nod) : Up (wG n) := up_vw _ _ _ _
attribute [local irreducible] callFunc Go.method J JL JO JR JR1 JRl Ct JG JM JM1 JW JW1 JQ JQ0 JS CtD xB RdB Er by8 Gl Emp uA smA ints yB vB vR wO uM flagR wholeR SevR
set_option maxHeartbeats 2000000 in
theorem rnode11_c (q : Nat) (bs : List UInt8) (pl : Int) (hpl : 0 ≤ pl ∧ pl + bs.length ≤ 1000000) : Ct Tryz.prog 88 #[rdg q] [RdB q bs pl,Emp] (RdE (uS bs pl) q erN (fun n => .agg (xR n).toArray) wG Emp) := by
  refine yE (vs := [_]) Tryz.func88 rfl Tryz.ntmps88 (by simp) ?_
  repeat (first|(first|refine zB ?_|refine zE ?_|refine zG ?_)|(first|((first|refine zA rfl ?_);first|refine zU rfl (by rfl) rfl ?_|refine yN rfl rfl (fun r => ?_)|refine zS rfl (fun r => ?_))))
  have c1 := rnum11_c q bs pl 5 hpl (by omega)
  refine zA rfl (wR rfl c1 rfl (fun x1 bs1 pl1 y1 g1 hy1 => ?_) (fun c a qf g1 => vG (c := c) (a := a) (by simp [uS,g1])))
  obtain rfl : y1 = x1 := hy1
  have p1 := uN _ _ _ _ _ _ g1
  have hk := numR_le g1
  have h6 : y1 = 0 ∨ y1 = 1 ∨ y1 = 2 ∨ y1 = 3 ∨ y1 = 4 ∨ y1 = 5 := by omega
  rcases h6 with rfl | rfl | rfl | rfl | rfl | rfl
  · repeat (first|(first|refine zB ?_|refine zE ?_|refine zG ?_|refine zK ?_|refine zL rfl ?_|refine zV ?_)|(first|((first|refine zA rfl ?_);first|refine JOq (yT rfl rfl (by omega)) rfl ?_|refine zO rfl rfl (by rfl) (by rfl) (by simp [Value.oneCell']) rfl ?_|refine zC rfl rfl ?_|refine zF rfl rfl ?_|refine zH rfl rfl ?_|refine zU rfl (by rfl) rfl ?_|refine zW rfl rfl (by first | rfl | assumption) rfl ?_)))
    exact tN (wT rfl rfl rfl) (show uS bs pl = .ok ⟨0,0,false,(0,0),[],no0⟩ bs1 pl1 by simp [uS,g1]) ⟨0,0,false,(0,0),[],no0⟩ rfl rfl ((vw00 (sz := 2) (e := 55)).trans (emp_in.trans (Ent.sel (K := [RdB q bs1 pl1,Vw 2 (.slice none 0 0) 0 [],Emp]))))
  · repeat (first|(first|refine zB ?_|refine zE ?_|refine zG ?_|refine zK ?_|refine zP ?_|refine zL rfl ?_|refine zJ rfl ?_)|(first|((first|refine zA rfl ?_);first|refine JOq (yT rfl rfl (by omega)) rfl ?_|refine JOq (yL rfl rfl (by omega)) rfl ?_|refine zC rfl rfl ?_|refine zF rfl rfl ?_|refine zH rfl rfl ?_|refine zU rfl (by rfl) rfl ?_|refine zW rfl rfl (by first | rfl | assumption) rfl ?_)))
    have c2 := rnum11_c q bs1 pl1 1000 (by omega) (by omega)
    refine zA rfl (wR rfl c2 rfl (fun x2 bs2 pl2 y2 g2 hy2 => ?_) (fun c a qf g2 => vG (c := c) (a := a) (by simp [uS,g1,g2])))
    obtain rfl : y2 = x2 := hy2
    have p2 := uN _ _ _ _ _ _ g2
    repeat (first|(first|refine zB ?_|refine zE ?_|refine zG ?_)|(first|((first|refine zA rfl ?_);first|refine zF rfl rfl ?_|refine zU rfl (by rfl) rfl ?_|refine zW rfl rfl (by first | rfl | assumption) rfl ?_)))
    have c3 := rflag11_c q bs2 pl2 (by omega)
    refine zA rfl (wR rfl c3 rfl (fun x3 bs3 pl3 y3 g3 hy3 => ?_) (fun c a qf g3 => vG (c := c) (a := a) (by simp [uS,g1,g2,g3])))
    obtain rfl : y3 = x3 := hy3
    have p3 := good_flag _ _ _ _ _ g3
    repeat (first|(first|refine zB ?_|refine zE ?_|refine zG ?_)|(first|((first|refine zA rfl ?_);first|refine zF rfl rfl ?_|refine zH rfl rfl ?_|refine zW rfl rfl (by first | rfl | assumption) rfl ?_)))
    cases y3
    · repeat (first|(first|refine zB ?_|refine zG ?_|refine zP ?_|refine zJ rfl ?_)|(first|((first|refine zA rfl ?_);first|refine zU rfl (by rfl) rfl ?_)))
      have c4 := redge11_c q bs3 pl3 (by omega)
      refine zA rfl (wR rfl c4 rfl (fun x4 bs4 pl4 y4 g4 hy4 => ?_) (fun c a qf g4 => vG (c := c) (a := a) (by simp [uS,g1,g2,g3,g4])))
      obtain rfl : y4 = x4 := hy4
      have p4 := good_edge _ _ _ _ _ g4
      repeat (first|(first|refine zB ?_|refine zE ?_|refine zG ?_|refine zV ?_)|(first|((first|refine zA rfl ?_);first|refine zO rfl rfl (by rfl) (by rfl) (by simp [Value.oneCell']) rfl ?_|refine zF rfl rfl ?_|refine zU rfl (by rfl) rfl ?_|refine yP rfl rfl rfl (by decide) rfl (fun r => ?_)|refine zW rfl rfl (by first | rfl | assumption) rfl ?_)))
      refine tN (wT rfl rfl rfl) (show uS bs pl = .ok ⟨1,(y2 : Int),false,(0,0),[y4],no0⟩ bs4 pl4 by simp [uS,g1,g2,g3,g4]) ⟨1,(y2 : Int),false,(0,0),[y4],(some ⟨_,0,none⟩,1)⟩ rfl rfl ?_
      exact (Ent.sel (K := [pt r (.cells (yI y4).toArray 55 (0,0)),RdB q bs4 pl4])).trans (row_one.trans (emp_in.trans (Ent.sel (K := [RdB q bs4 pl4,Vw 2 (.slice (some ⟨r,0,none⟩) 1 1) 1 (yI y4),Emp]))))
    · repeat (first|(first|refine zB ?_|refine zL rfl ?_)|(first|((first|refine zA rfl ?_);first|refine zU rfl (by rfl) rfl ?_)))
      have c4 := redge11_c q bs3 pl3 (by omega)
      refine zA rfl (wR rfl c4 rfl (fun x4 bs4 pl4 y4 g4 hy4 => ?_) (fun c a qf g4 => vG (c := c) (a := a) (by simp [uS,g1,g2,g3,g4])))
      obtain rfl : y4 = x4 := hy4
      have p4 := good_edge _ _ _ _ _ g4
      repeat (first|(first|refine zB ?_)|(first|((first|refine zA rfl ?_);first|refine zF rfl rfl ?_)))
      refine zA rfl (JO_storeM (pre := [.int .i64 1,.int .i64 (y2 : Int),.bool true]) (old := [.int .i64 0,.int .i64 0]) (post := [.slice none 0 0]) (vs := yI y4) rfl rfl rfl rfl rfl rfl (edge_one _) rfl ?_)
      simp only [yI,List.cons_append,List.nil_append]
      repeat (first|(first|refine zB ?_|refine zE ?_|refine zG ?_)|(first|((first|refine zA rfl ?_);first|refine zU rfl (by rfl) rfl ?_)))
      have c5 := redge11_c q bs4 pl4 (by omega)
      refine zA rfl (wR rfl c5 rfl (fun x5 bs5 pl5 y5 g5 hy5 => ?_) (fun c a qf g5 => vG (c := c) (a := a) (by simp [uS,g1,g2,g3,g4,g5])))
      obtain rfl : y5 = x5 := hy5
      have p5 := good_edge _ _ _ _ _ g5
      repeat (first|(first|refine zB ?_|refine zE ?_|refine zG ?_|refine zV ?_)|(first|((first|refine zA rfl ?_);first|refine zO rfl rfl (by rfl) (by rfl) (by simp [Value.oneCell']) rfl ?_|refine zF rfl rfl ?_|refine zU rfl (by rfl) rfl ?_|refine yP rfl rfl rfl (by decide) rfl (fun r => ?_)|refine zW rfl rfl (by first | rfl | assumption) rfl ?_)))
      refine tN (wT rfl rfl rfl) (show uS bs pl = .ok ⟨1,(y2 : Int),true,y4,[y5],no0⟩ bs5 pl5 by simp [uS,g1,g2,g3,g4,g5]) ⟨1,(y2 : Int),true,y4,[y5],(some ⟨_,0,none⟩,1)⟩ rfl rfl ?_
      exact (Ent.sel (K := [pt r (.cells (yI y5).toArray 55 (0,0)),RdB q bs5 pl5])).trans (row_one.trans (emp_in.trans (Ent.sel (K := [RdB q bs5 pl5,Vw 2 (.slice (some ⟨r,0,none⟩) 1 1) 1 (yI y5),Emp]))))
  · repeat (first|(first|refine zB ?_|refine zE ?_|refine zG ?_|refine zK ?_|refine zL rfl ?_|refine zJ rfl ?_)|(first|((first|refine zA rfl ?_);first|refine JOq (yT rfl rfl (by omega)) rfl ?_|refine JOq (yL rfl rfl (by omega)) rfl ?_|refine zC rfl rfl ?_|refine zF rfl rfl ?_|refine zH rfl rfl ?_|refine zU rfl (by rfl) rfl ?_|refine zW rfl rfl (by first | rfl | assumption) rfl ?_)))
    have c2 := rnum11_c q bs1 pl1 1000 (by omega) (by omega)
    refine zA rfl (wR rfl c2 rfl (fun x2 bs2 pl2 y2 g2 hy2 => ?_) (fun c a qf g2 => vG (c := c) (a := a) (by simp [uS,g1,g2])))
    obtain rfl : y2 = x2 := hy2
    have p2 := uN _ _ _ _ _ _ g2
    repeat (first|(first|refine zB ?_|refine zE ?_|refine zG ?_)|(first|((first|refine zA rfl ?_);first|refine zF rfl rfl ?_|refine zU rfl (by rfl) rfl ?_|refine zW rfl rfl (by first | rfl | assumption) rfl ?_)))
    have c3 := rflag11_c q bs2 pl2 (by omega)
    refine zA rfl (wR rfl c3 rfl (fun x3 bs3 pl3 y3 g3 hy3 => ?_) (fun c a qf g3 => vG (c := c) (a := a) (by simp [uS,g1,g2,g3])))
    obtain rfl : y3 = x3 := hy3
    have p3 := good_flag _ _ _ _ _ g3
    repeat (first|(first|refine zB ?_|refine zE ?_|refine zG ?_)|(first|((first|refine zA rfl ?_);first|refine zF rfl rfl ?_|refine zH rfl rfl ?_|refine zW rfl rfl (by first | rfl | assumption) rfl ?_)))
    cases y3
    · repeat (first|(first|refine zB ?_|refine zG ?_|refine zP ?_|refine zJ rfl ?_)|(first|((first|refine zA rfl ?_);first|refine zU rfl (by rfl) rfl ?_)))
      have c4 := redge11_c q bs3 pl3 (by omega)
      refine zA rfl (wR rfl c4 rfl (fun x4 bs4 pl4 y4 g4 hy4 => ?_) (fun c a qf g4 => vG (c := c) (a := a) (by simp [uS,g1,g2,g3,g4])))
      obtain rfl : y4 = x4 := hy4
      have p4 := good_edge _ _ _ _ _ g4
      repeat (first|(first|refine zB ?_|refine zE ?_|refine zG ?_|refine zV ?_)|(first|((first|refine zA rfl ?_);first|refine zO rfl rfl (by rfl) (by rfl) (by simp [Value.oneCell']) rfl ?_|refine zF rfl rfl ?_|refine zU rfl (by rfl) rfl ?_|refine yP rfl rfl rfl (by decide) rfl (fun r => ?_)|refine zW rfl rfl (by first | rfl | assumption) rfl ?_)))
      refine tN (wT rfl rfl rfl) (show uS bs pl = .ok ⟨2,(y2 : Int),false,(0,0),[y4],no0⟩ bs4 pl4 by simp [uS,g1,g2,g3,g4]) ⟨2,(y2 : Int),false,(0,0),[y4],(some ⟨_,0,none⟩,1)⟩ rfl rfl ?_
      exact (Ent.sel (K := [pt r (.cells (yI y4).toArray 55 (0,0)),RdB q bs4 pl4])).trans (row_one.trans (emp_in.trans (Ent.sel (K := [RdB q bs4 pl4,Vw 2 (.slice (some ⟨r,0,none⟩) 1 1) 1 (yI y4),Emp]))))
    · repeat (first|(first|refine zB ?_|refine zL rfl ?_)|(first|((first|refine zA rfl ?_);first|refine zU rfl (by rfl) rfl ?_)))
      have c4 := redge11_c q bs3 pl3 (by omega)
      refine zA rfl (wR rfl c4 rfl (fun x4 bs4 pl4 y4 g4 hy4 => ?_) (fun c a qf g4 => vG (c := c) (a := a) (by simp [uS,g1,g2,g3,g4])))
      obtain rfl : y4 = x4 := hy4
      have p4 := good_edge _ _ _ _ _ g4
      repeat (first|(first|refine zB ?_)|(first|((first|refine zA rfl ?_);first|refine zF rfl rfl ?_)))
      refine zA rfl (JO_storeM (pre := [.int .i64 2,.int .i64 (y2 : Int),.bool true]) (old := [.int .i64 0,.int .i64 0]) (post := [.slice none 0 0]) (vs := yI y4) rfl rfl rfl rfl rfl rfl (edge_one _) rfl ?_)
      simp only [yI,List.cons_append,List.nil_append]
      repeat (first|(first|refine zB ?_|refine zE ?_|refine zG ?_)|(first|((first|refine zA rfl ?_);first|refine zU rfl (by rfl) rfl ?_)))
      have c5 := redge11_c q bs4 pl4 (by omega)
      refine zA rfl (wR rfl c5 rfl (fun x5 bs5 pl5 y5 g5 hy5 => ?_) (fun c a qf g5 => vG (c := c) (a := a) (by simp [uS,g1,g2,g3,g4,g5])))
      obtain rfl : y5 = x5 := hy5
      have p5 := good_edge _ _ _ _ _ g5
      repeat (first|(first|refine zB ?_|refine zE ?_|refine zG ?_|refine zV ?_)|(first|((first|refine zA rfl ?_);first|refine zO rfl rfl (by rfl) (by rfl) (by simp [Value.oneCell']) rfl ?_|refine zF rfl rfl ?_|refine zU rfl (by rfl) rfl ?_|refine yP rfl rfl rfl (by decide) rfl (fun r => ?_)|refine zW rfl rfl (by first | rfl | assumption) rfl ?_)))
      refine tN (wT rfl rfl rfl) (show uS bs pl = .ok ⟨2,(y2 : Int),true,y4,[y5],no0⟩ bs5 pl5 by simp [uS,g1,g2,g3,g4,g5]) ⟨2,(y2 : Int),true,y4,[y5],(some ⟨_,0,none⟩,1)⟩ rfl rfl ?_
      exact (Ent.sel (K := [pt r (.cells (yI y5).toArray 55 (0,0)),RdB q bs5 pl5])).trans (row_one.trans (emp_in.trans (Ent.sel (K := [RdB q bs5 pl5,Vw 2 (.slice (some ⟨r,0,none⟩) 1 1) 1 (yI y5),Emp]))))
  · repeat (first|(first|refine zB ?_|refine zE ?_|refine zG ?_|refine zK ?_|refine zP ?_|refine zL rfl ?_|refine zJ rfl ?_)|(first|((first|refine zA rfl ?_);first|refine JOq (yT rfl rfl (by omega)) rfl ?_|refine JOq (yL rfl rfl (by omega)) rfl ?_|refine zC rfl rfl ?_|refine zF rfl rfl ?_|refine zH rfl rfl ?_|refine zU rfl (by rfl) rfl ?_|refine zW rfl rfl (by first | rfl | assumption) rfl ?_)))
    have c2 := rnum11_c q bs1 pl1 1000 (by omega) (by omega)
    refine zA rfl (wR rfl c2 rfl (fun x2 bs2 pl2 y2 g2 hy2 => ?_) (fun c a qf g2 => vG (c := c) (a := a) (by simp [uS,g1,g2])))
    obtain rfl : y2 = x2 := hy2
    have p2 := uN _ _ _ _ _ _ g2
    repeat (first|(first|refine zB ?_|refine zE ?_|refine zG ?_)|(first|((first|refine zA rfl ?_);first|refine zF rfl rfl ?_|refine zU rfl (by rfl) rfl ?_|refine wP rfl rfl rfl ?_|refine zW rfl rfl (by first | rfl | assumption) rfl ?_)))
    have c3 := severalEdge_c yI id NoR wO (f := 138) [rdg q] [] Emp (fun _ => rfl) edge_one up_noR good_edge q (fun b p h => redge11_c q b p h) 1 8 (by decide) bs2 pl2 (by omega)
    refine zA rfl (wR rfl c3 rfl (fun x3 bs3 pl3 y3 g3 hy3 => ?_) (fun c a qf g3 => vG (c := c) (a := a) (by simp [uS,g1,g2,g3])))
    have p3 := (good_sev good_edge) _ _ _ _ _ g3
    obtain ⟨ys,a1,at_,a2⟩ := y3
    repeat (first|(first|refine zB ?_|refine zE ?_|refine zG ?_|refine zV ?_)|(first|((first|refine zA rfl ?_);first|refine zO rfl rfl (by rfl) (by rfl) (by simp [Value.oneCell']) rfl ?_|refine zD rfl rfl ?_|refine zF rfl rfl ?_|refine zU rfl (by rfl) rfl ?_|refine zT rfl rfl rfl ?_|refine zW rfl rfl (by first | rfl | assumption) rfl ?_)))
    refine tN (wT rfl rfl rfl) (show uS bs pl = .ok ⟨3,(y2 : Int),false,(0,0),ys,no0⟩ bs3 pl3 by simp [uS,g1,g2,g3];rw [← hy3];simp [sevE]) ⟨3,(y2 : Int),false,(0,0),ys,a1⟩ rfl rfl ?_
    exact (Ent.sel (K := [SevR 2 yI NoR ⟨ys,a1,at_,a2⟩,RdB q bs3 pl3])).trans ((sevR_rows (fun _ => pers_emp)).trans (emp_in.trans Ent.sel))
  · repeat (first|(first|refine zB ?_|refine zE ?_|refine zG ?_|refine zK ?_|refine zL rfl ?_|refine zJ rfl ?_)|(first|((first|refine zA rfl ?_);first|refine JOq (yT rfl rfl (by omega)) rfl ?_|refine JOq (yL rfl rfl (by omega)) rfl ?_|refine zC rfl rfl ?_|refine zF rfl rfl ?_|refine zH rfl rfl ?_|refine zU rfl (by rfl) rfl ?_|refine zW rfl rfl (by first | rfl | assumption) rfl ?_)))
    have c2 := rnum11_c q bs1 pl1 1000 (by omega) (by omega)
    refine zA rfl (wR rfl c2 rfl (fun x2 bs2 pl2 y2 g2 hy2 => ?_) (fun c a qf g2 => vG (c := c) (a := a) (by simp [uS,g1,g2])))
    obtain rfl : y2 = x2 := hy2
    have p2 := uN _ _ _ _ _ _ g2
    repeat (first|(first|refine zB ?_|refine zE ?_|refine zG ?_)|(first|((first|refine zA rfl ?_);first|refine zF rfl rfl ?_|refine zU rfl (by rfl) rfl ?_|refine wP rfl rfl rfl ?_|refine zW rfl rfl (by first | rfl | assumption) rfl ?_)))
    have c3 := severalEdge_c yI id NoR wO (f := 138) [rdg q] [] Emp (fun _ => rfl) edge_one up_noR good_edge q (fun b p h => redge11_c q b p h) 1 8 (by decide) bs2 pl2 (by omega)
    refine zA rfl (wR rfl c3 rfl (fun x3 bs3 pl3 y3 g3 hy3 => ?_) (fun c a qf g3 => vG (c := c) (a := a) (by simp [uS,g1,g2,g3])))
    have p3 := (good_sev good_edge) _ _ _ _ _ g3
    obtain ⟨ys,a1,at_,a2⟩ := y3
    repeat (first|(first|refine zB ?_|refine zE ?_|refine zG ?_|refine zV ?_)|(first|((first|refine zA rfl ?_);first|refine zO rfl rfl (by rfl) (by rfl) (by simp [Value.oneCell']) rfl ?_|refine zD rfl rfl ?_|refine zF rfl rfl ?_|refine zU rfl (by rfl) rfl ?_|refine zT rfl rfl rfl ?_|refine zW rfl rfl (by first | rfl | assumption) rfl ?_)))
    refine tN (wT rfl rfl rfl) (show uS bs pl = .ok ⟨4,(y2 : Int),false,(0,0),ys,no0⟩ bs3 pl3 by simp [uS,g1,g2,g3];rw [← hy3];simp [sevE]) ⟨4,(y2 : Int),false,(0,0),ys,a1⟩ rfl rfl ?_
    exact (Ent.sel (K := [SevR 2 yI NoR ⟨ys,a1,at_,a2⟩,RdB q bs3 pl3])).trans ((sevR_rows (fun _ => pers_emp)).trans (emp_in.trans Ent.sel))
  · repeat (first|(first|refine zB ?_|refine zE ?_|refine zG ?_|refine zK ?_|refine zP ?_|refine zJ rfl ?_)|(first|((first|refine zA rfl ?_);first|refine JOq (yL rfl rfl (by omega)) rfl ?_|refine zC rfl rfl ?_|refine zF rfl rfl ?_|refine zH rfl rfl ?_|refine zU rfl (by rfl) rfl ?_|refine zW rfl rfl (by first | rfl | assumption) rfl ?_)))
    have c2 := redge11_c q bs1 pl1 (by omega)
    refine zA rfl (wR rfl c2 rfl (fun x2 bs2 pl2 y2 g2 hy2 => ?_) (fun c a qf g2 => vG (c := c) (a := a) (by simp [uS,g1,g2])))
    obtain rfl : y2 = x2 := hy2
    have p2 := good_edge _ _ _ _ _ g2
    repeat (first|(first|refine zB ?_|refine zE ?_|refine zG ?_|refine zV ?_)|(first|((first|refine zA rfl ?_);first|refine zO rfl rfl (by rfl) (by rfl) (by simp [Value.oneCell']) rfl ?_|refine zF rfl rfl ?_|refine zU rfl (by rfl) rfl ?_|refine yP rfl rfl rfl (by decide) rfl (fun r => ?_)|refine zW rfl rfl (by first | rfl | assumption) rfl ?_)))
    refine tN (wT rfl rfl rfl) (show uS bs pl = .ok ⟨5,0,false,(0,0),[y2],no0⟩ bs2 pl2 by simp [uS,g1,g2]) ⟨5,0,false,(0,0),[y2],(some ⟨_,0,none⟩,1)⟩ rfl rfl ?_
    exact (Ent.sel (K := [pt r (.cells (yI y2).toArray 55 (0,0)),RdB q bs2 pl2])).trans (row_one.trans (emp_in.trans (Ent.sel (K := [RdB q bs2 pl2,Vw 2 (.slice (some ⟨r,0,none⟩) 1 1) 1 (yI y2),Emp]))))
def prmR : Rdr Prm := fun bs pl => (flagR bs pl).bind fun ch bs pl => if ch then (wO bs pl).bind fun e bs pl => .ok ⟨true,e⟩ bs pl else .ok ⟨false,(0,0)⟩ bs pl
theorem good_prm : GoodR prmR := good_flag.bind fun _ => good_if (good_edge.bind fun _ => GoodR.pure) GoodR.pure
theorem rprm11_c (q : Nat) (bs : List UInt8) (pl : Int) (hpl : 0 ≤ pl ∧ pl + bs.length ≤ 1000000) : Ct Tryz.prog 142 #[rdg q] [RdB q bs pl,Emp] (RdE (prmR bs pl) q id (fun p : Prm => .agg (tI p).toArray) NoR Emp) := by
  have c1 := rflag11_c q bs pl hpl
  refine yE (vs := [_]) Tryz.func142 rfl Tryz.ntmps142 (by simp) ?_
  repeat (first|(first|refine zB ?_|refine zE ?_|refine zG ?_)|(first|((first|refine zA rfl ?_);first|refine zU rfl (by rfl) rfl ?_|refine yN rfl rfl (fun r => ?_)|refine zS rfl (fun r => ?_))))
  refine zA rfl (wR rfl c1 rfl (fun x1 bs1 pl1 y1 g1 hy1 => ?_) (fun c a qf g1 => vG (c := c) (a := a) (by simp [prmR,g1])))
  obtain rfl : y1 = x1 := hy1
  have p1 := good_flag _ _ _ _ _ g1
  cases y1
  · repeat (first|(first|refine zB ?_|refine zE ?_|refine zG ?_|refine zP ?_|refine zJ rfl ?_|refine zV ?_)|(first|((first|refine zA rfl ?_);first|refine zO rfl rfl (by rfl) (by rfl) (by simp [Value.oneCell']) rfl ?_|refine zF rfl rfl ?_|refine zH rfl rfl ?_|refine zU rfl (by rfl) rfl ?_|refine zW rfl rfl (by first | rfl | assumption) rfl ?_)))
    exact tN (wT rfl rfl rfl) (show prmR bs pl = .ok ⟨false,(0,0)⟩ bs1 pl1 by simp [prmR,g1]) ⟨false,(0,0)⟩ rfl rfl (emp_in.trans Ent.sel)
  · repeat (first|(first|refine zB ?_|refine zE ?_|refine zG ?_|refine zL rfl ?_)|(first|((first|refine zA rfl ?_);first|refine zF rfl rfl ?_|refine zH rfl rfl ?_|refine zU rfl (by rfl) rfl ?_|refine zW rfl rfl (by first | rfl | assumption) rfl ?_)))
    have c2 := rtyp11_c q bs1 pl1 (by omega)
    refine zA rfl (wR rfl c2 rfl (fun x2 bs2 pl2 y2 g2 hy2 => ?_) (fun c a qf g2 => vG (c := c) (a := a) (by simp [prmR,g1,g2])))
    obtain rfl : y2 = x2 := hy2
    repeat (first|(first|refine zB ?_|refine zE ?_|refine zG ?_|refine zV ?_)|(first|((first|refine zA rfl ?_);first|refine JO_storeM (pre := [.bool true]) (old := [.int .i64 0,.int .i64 0]) (post := []) (vs := yI y2) rfl rfl rfl rfl rfl rfl (edge_one _) rfl ?_|refine zO rfl rfl (by rfl) (by rfl) (by simp [Value.oneCell']) rfl ?_|refine zF rfl rfl ?_|refine zU rfl (by rfl) rfl ?_)))
    exact tN (wT rfl rfl rfl) (show prmR bs pl = .ok ⟨true,y2⟩ bs2 pl2 by simp [prmR,g1,g2]) ⟨true,y2⟩ rfl rfl (emp_in.trans Ent.sel)
def arR : Rdr Ar := fun bs pl => (flagR bs pl).bind fun ch bs pl => if ch then (uM 31 bs pl).bind fun n bs pl => .ok ⟨true,0,(n : Int)⟩ bs pl else (wholeR bs pl).bind fun w bs pl => .ok ⟨false,w,0⟩ bs pl
theorem good_ar : GoodR arR := good_flag.bind fun _ => good_if ((uN 31).bind fun _ => GoodR.pure) (good_whole.bind fun _ => GoodR.pure)
theorem wholeR_cases (bs : List UInt8) (pl : Int) : ((uA bs pl).c ≠ 0 ∧ (uA bs pl).n = 0 ∧ wholeR bs pl = .bad (uA bs pl).c (uA bs pl).a) ∨ (uA bs pl = ⟨(uA bs pl).n,0,0,(uA bs pl).rest,(uA bs pl).pl⟩ ∧ wholeR bs pl = .ok (uB (uA bs pl).n) (uA bs pl).rest (uA bs pl).pl) := by
  have ha := uA_a bs pl
  have hk := uA_ok bs pl
  by_cases h : (uA bs pl).c ≠ 0
  · exact .inl ⟨h,hk.2.2.2 h,by unfold wholeR;rw [if_pos h]⟩
  · have h0 : (uA bs pl).c = 0 := by simpa using h
    refine .inr ⟨?_,by unfold wholeR;rw [if_neg h]⟩
    have ha := ha h0
    revert h0 ha
    generalize uA bs pl = U
    rcases U with ⟨n,c,a,rest,p2⟩
    rintro rfl rfl
    rfl
theorem rar11_c (q : Nat) (bs : List UInt8) (pl : Int) (hpl : 0 ≤ pl ∧ pl + bs.length ≤ 1000000) : Ct Tryz.prog 148 #[rdg q] [RdB q bs pl,Emp] (RdE (arR bs pl) q id (fun p : Ar => .agg (arC p).toArray) NoR Emp) := by
  have c1 := rflag11_c q bs pl hpl
  refine yE (vs := [_]) Tryz.func148 rfl Tryz.ntmps148 (by simp) ?_
  repeat (first|(first|refine zB ?_|refine zE ?_|refine zG ?_)|(first|((first|refine zA rfl ?_);first|refine zU rfl (by rfl) rfl ?_|refine yN rfl rfl (fun r => ?_)|refine zS rfl (fun r => ?_))))
  refine zA rfl (wR rfl c1 rfl (fun x1 bs1 pl1 y1 g1 hy1 => ?_) (fun c a qf g1 => vG (c := c) (a := a) (by simp [arR,g1])))
  obtain rfl : y1 = x1 := hy1
  have p1 := good_flag _ _ _ _ _ g1
  cases y1
  · rcases wholeR_cases bs1 pl1 with ⟨hc,hn,g2⟩ | ⟨hu,g2⟩
    · have c2 := s_E q bs1 pl1 (by omega)
      rw [hn] at c2
      have c2 := ct_erF hc c2
      repeat (first|(first|refine zB ?_|refine zE ?_|refine zG ?_|refine zP ?_|refine zJ rfl ?_)|(first|((first|refine zA rfl ?_);first|refine JO_callFV rfl c2 rfl (fun qf => ?_)|refine zF rfl rfl ?_|refine zH rfl rfl ?_|refine zT rfl rfl rfl ?_|refine zW rfl rfl (by first | rfl | assumption) rfl ?_)))
      refine zA rfl (JO_callPF rfl (wholeL_bad _ qf) rfl (vG (c := (uA bs1 pl1).c) (a := (uA bs1 pl1).a) (by simp [arR,g1,g2])))
    · have c2 := s_ok q bs1 _ pl1 _ _ (by omega) hu
      have c3 := wholeL_ok (uB (uA bs1 pl1).n)
      repeat (first|(first|refine zB ?_|refine zE ?_|refine zG ?_|refine zP ?_|refine zJ rfl ?_|refine zV ?_)|(first|((first|refine zA rfl ?_);first|refine zO rfl rfl (by rfl) (by rfl) (by simp [Value.oneCell']) rfl ?_|refine zF rfl rfl ?_|refine zH rfl rfl ?_|refine zU rfl (by rfl) rfl ?_|refine zT rfl rfl rfl ?_|refine zW rfl rfl (by first | rfl | assumption) rfl ?_|refine zN rfl (c2) rfl ?_|refine zR rfl (c3) rfl ?_)))
      exact tN (wT rfl rfl rfl) (show arR bs pl = .ok ⟨false,uB (uA bs1 pl1).n,0⟩ (uA bs1 pl1).rest (uA bs1 pl1).pl by simp [arR,g1,g2]) ⟨false,uB (uA bs1 pl1).n,0⟩ rfl rfl (emp_in.trans Ent.sel)
  · repeat (first|(first|refine zB ?_|refine zE ?_|refine zG ?_|refine zL rfl ?_)|(first|((first|refine zA rfl ?_);first|refine zF rfl rfl ?_|refine zH rfl rfl ?_|refine zU rfl (by rfl) rfl ?_|refine zW rfl rfl (by first | rfl | assumption) rfl ?_)))
    have c2 := rnum11_c q bs1 pl1 31 (by omega) (by decide)
    refine zA rfl (wR rfl c2 rfl (fun x2 bs2 pl2 y2 g2 hy2 => ?_) (fun c a qf g2 => vG (c := c) (a := a) (by simp [arR,g1,g2])))
    obtain rfl : y2 = x2 := hy2
    repeat (first|(first|refine zB ?_|refine zE ?_|refine zG ?_|refine zV ?_)|(first|((first|refine zA rfl ?_);first|refine zO rfl rfl (by rfl) (by rfl) (by simp [Value.oneCell']) rfl ?_|refine zF rfl rfl ?_|refine zU rfl (by rfl) rfl ?_|refine zW rfl rfl (by first | rfl | assumption) rfl ?_)))
    exact tN (wT rfl rfl rfl) (show arR bs pl = .ok ⟨true,0,(y2 : Int)⟩ bs2 pl2 by simp [arR,g1,g2]) ⟨true,0,(y2 : Int)⟩ rfl rfl (emp_in.trans Ent.sel)
def staR : Rdr Sta := fun bs pl => (uM 15 bs pl).bind fun n bs pl => (vR 0 8 arR bs pl).bind fun z bs pl => .ok ⟨(n : Int),z.1,no0⟩ bs pl
theorem good_sta : GoodR staR := (uN 15).bind fun _ => (good_sev good_ar).bind fun _ => GoodR.pure
def erS (s : Sta) : Sta := { s with a := no0 }
theorem up_staR (s : Sta) : Up (StaR s) := up_vw _ _ _ _
theorem rsta11_c (q : Nat) (bs : List UInt8) (pl : Int) (hpl : 0 ≤ pl ∧ pl + bs.length ≤ 1000000) : Ct Tryz.prog 95 #[rdg q] [RdB q bs pl,Emp] (RdE (staR bs pl) q erS (fun s : Sta => .agg (vE s).toArray) StaR Emp) := by
  have c1 := rnum11_c q bs pl 15 hpl (by decide)
  refine yE (vs := [_]) Tryz.func95 rfl Tryz.ntmps95 (by simp) ?_
  repeat (first|(first|refine zB ?_|refine zE ?_|refine zG ?_)|(first|((first|refine zA rfl ?_);first|refine zU rfl (by rfl) rfl ?_|refine yN rfl rfl (fun r => ?_)|refine zS rfl (fun r => ?_))))
  refine zA rfl (wR rfl c1 rfl (fun x1 bs1 pl1 y1 g1 hy1 => ?_) (fun c a qf g1 => vG (c := c) (a := a) (by simp [staR,g1])))
  obtain rfl : y1 = x1 := hy1
  have p1 := uN _ _ _ _ _ _ g1
  have c2 := severalArg_c arC id NoR arR (f := 148) [rdg q] [] Emp (fun _ => rfl) ar_one up_noR good_ar q (fun b p h => rar11_c q b p h) 0 8 (by decide) bs1 pl1 (by omega)
  repeat (first|(first|refine zB ?_|refine zE ?_|refine zG ?_)|(first|((first|refine zA rfl ?_);first|refine zF rfl rfl ?_|refine zU rfl (by rfl) rfl ?_|refine wP rfl rfl rfl ?_|refine zW rfl rfl (by first | rfl | assumption) rfl ?_)))
  refine zA rfl (wR rfl c2 rfl (fun x2 bs2 pl2 y2 g2 hy2 => ?_) (fun c a qf g2 => vG (c := c) (a := a) (by simp [staR,g1,g2])))
  obtain ⟨ys,a1,at_,a2⟩ := y2
  repeat (first|(first|refine zB ?_|refine zE ?_|refine zG ?_|refine zV ?_)|(first|((first|refine zA rfl ?_);first|refine zO rfl rfl (by rfl) (by rfl) (by simp [Value.oneCell']) rfl ?_|refine zD rfl rfl ?_|refine zF rfl rfl ?_|refine zU rfl (by rfl) rfl ?_|refine zT rfl rfl rfl ?_|refine zW rfl rfl (by first | rfl | assumption) rfl ?_)))
  refine tN (wT rfl rfl rfl) (show staR bs pl = .ok ⟨(y1 : Int),ys,no0⟩ bs2 pl2 by simp [staR,g1,g2];rw [← hy2];simp [sevE]) ⟨(y1 : Int),ys,a1⟩ rfl rfl ?_
  exact (Ent.sel (K := [SevR 3 arC NoR ⟨ys,a1,at_,a2⟩,RdB q bs2 pl2])).trans ((sevR_rows (fun _ => pers_emp)).trans (emp_in.trans Ent.sel))
end Go.Proofs.YtickblndgihoeaaGreatDoor
