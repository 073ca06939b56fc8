/- Layer 11: the document's cursor: nodes. -/
import Derived.Test.YtickblndgihoeaaGreatDoorM40
set_option linter.unusedSimpArgs false
namespace Go.Proofs.YtickblndgihoeaaGreatDoor
open Go Go.Sp
def nodeT (kind prio : Int) (ch : Bool) (pay : Int × Int) (m : RO (List (Int × Int) × List Int)) : RO Nod := m.bind fun z b p => .ok ⟨kind,prio,ch,pay,z.1,no0⟩ b p
theorem bind_assoc {α β γ : Type} (m : RO α) (f : α → Rdr β) (g : β → Rdr γ) : (m.bind f).bind g = m.bind fun x b p => (f x b p).bind g := by cases m <;> rfl
theorem node_many {kind prio : Int} {ch : Bool} {pay : Int × Int} (bs : List UInt8) (pl : Int) : nodeT kind prio ch pay (vB wO 1 bs pl) = (wO bs pl).bind fun e b p => .ok ⟨kind,prio,ch,pay,[e],no0⟩ b p := by
  show nodeT kind prio ch pay ((wO bs pl).bind _) = _
  cases wO bs pl <;> rfl
theorem nodeT_one {kind prio : Int} {ch : Bool} {pay : Int × Int} {m : RO (List (Int × Int) × List Int)} {es : List (Int × Int)} {ps : List Int} {k q : Int} {b : List UInt8} {p : Int} (h : OneS m (es,ps) k q b p) : OneS (nodeT kind prio ch pay m) ⟨kind,prio,ch,pay,es,no0⟩ k q b p := by
  unfold nodeT
  rw [h.bind]
  exact h.good.pure _
def nodeF (k : Nat) : Rdr Nod := fun bs pl => if k = 0 then .ok ⟨0,0,false,(0,0),[],no0⟩ bs pl
  else if k = 3 ∨ k = 4 then (uM 1000 bs pl).bind fun p bs pl => (vR 1 8 wO bs pl).bind fun z bs pl => .ok ⟨(k : Int),(p : Int),false,(0,0),z.1,no0⟩ bs pl
  else if k = 1 ∨ k = 2 then (uM 1000 bs pl).bind fun p bs pl => (flagR bs pl).bind fun ch bs pl => (if ch then wO bs pl else .ok (0,0) bs pl).bind fun pay bs pl => (wO bs pl).bind fun e bs pl => .ok ⟨(k : Int),(p : Int),ch,pay,[e],no0⟩ bs pl
  else (wO bs pl).bind fun e bs pl => .ok ⟨(k : Int),0,false,(0,0),[e],no0⟩ bs pl
section
variable {bs b1 b2 b3 b4 : List UInt8} {pl p1 p2 p3 p4 k1 q1 k2 q2 k3 q3 k4 q4 : Int} {n pr fl N : Nat}
theorem node_F (h1 : OneS (uM 5 bs pl) n k1 q1 b1 p1) : uS bs pl = rdS (nodeF n) k1 q1 b1 p1 := (show uS bs pl = (uM 5 bs pl).bind nodeF from rfl).trans (h1.bind _)
theorem rdS_one {kind prio : Int} {ch : Bool} {pay : Int × Int} : rdS (fun b p => (wO b p).bind fun e b p => .ok ⟨kind,prio,ch,pay,[e],no0⟩ b p) k1 q1 b1 p1 = nodeT kind prio ch pay (rdS (vB wO 1) k1 q1 b1 p1) := by
  unfold rdS
  split
  · rw [node_many]
  · rfl
theorem node_0 (h1 : OneS (uM 5 bs pl) 0 k1 q1 b1 p1) : uS bs pl = nodeT 0 0 false (0,0) (rdS (vB wO 0) k1 q1 b1 p1) := by
  rw [node_F h1]
  unfold rdS
  split <;> rfl
theorem node_5 (h1 : OneS (uM 5 bs pl) 5 k1 q1 b1 p1) : uS bs pl = nodeT 5 0 false (0,0) (rdS (vB wO 1) k1 q1 b1 p1) := by
  rw [node_F h1,← rdS_one]
  rfl
theorem node_s (hn : n = 1 ∨ n = 2) (h1 : OneS (uM 5 bs pl) n k1 q1 b1 p1) (h2 : OneS (rdS (uM 1000) k1 q1 b1 p1) pr k2 q2 b2 p2) (h3 : OneS (rdS (uM 1) k2 q2 b2 p2) fl k3 q3 b3 p3) :
    uS bs pl = rdS (fun bs pl => (if decide (fl = 1) then wO bs pl else .ok (0,0) bs pl).bind fun pay bs pl => (wO bs pl).bind fun e bs pl => .ok ⟨(n : Int),(pr : Int),decide (fl = 1),pay,[e],no0⟩ bs pl) k3 q3 b3 p3 := by
  have e1 : nodeF n = fun bs pl => (uM 1000 bs pl).bind fun p bs pl => (uM 1 bs pl).bind fun fl bs pl => (if decide (fl = 1) then wO bs pl else .ok (0,0) bs pl).bind fun pay bs pl => (wO bs pl).bind fun e bs pl => .ok ⟨(n : Int),(p : Int),decide (fl = 1),pay,[e],no0⟩ bs pl := by
    funext b p
    unfold nodeF flagR
    rw [if_neg (by omega),if_neg (by omega),if_pos hn]
    simp only [bind_assoc,bind_ok]
  rw [node_F h1,e1,rdS_bind,h2.bind,rdS_bind,h3.bind]
theorem node_s1 {pay : Int × Int} (hn : n = 1 ∨ n = 2) (h1 : OneS (uM 5 bs pl) n k1 q1 b1 p1) (h2 : OneS (rdS (uM 1000) k1 q1 b1 p1) pr k2 q2 b2 p2) (h3 : OneS (rdS (uM 1) k2 q2 b2 p2) 1 k3 q3 b3 p3) (h4 : OneS (rdS wO k3 q3 b3 p3) pay k4 q4 b4 p4) :
    uS bs pl = nodeT n pr true pay (rdS (vB wO 1) k4 q4 b4 p4) := by
  rw [node_s hn h1 h2 h3,← rdS_one]
  simp only [decide_true,if_true]
  rw [rdS_bind,h4.bind]
theorem node_s0 (hn : n = 1 ∨ n = 2) (h1 : OneS (uM 5 bs pl) n k1 q1 b1 p1) (h2 : OneS (rdS (uM 1000) k1 q1 b1 p1) pr k2 q2 b2 p2) (h3 : OneS (rdS (uM 1) k2 q2 b2 p2) fl k3 q3 b3 p3) (hf : fl ≠ 1) :
    uS bs pl = nodeT n pr false (0,0) (rdS (vB wO 1) k3 q3 b3 p3) := by
  rw [node_s hn h1 h2 h3,← rdS_one,decide_eq_false hf]
  rfl
theorem node_c (hn : n = 3 ∨ n = 4) (h1 : OneS (uM 5 bs pl) n k1 q1 b1 p1) (h2 : OneS (rdS (uM 1000) k1 q1 b1 p1) pr k2 q2 b2 p2) (h3 : OneS (rdS (someR 8) k2 q2 b2 p2) N k3 q3 b3 p3) :
    uS bs pl = nodeT n pr false (0,0) (rdS (vB wO N) k3 q3 b3 p3) := by
  have e1 : nodeF n = fun bs pl => (uM 1000 bs pl).bind fun p bs pl => (someR 8 bs pl).bind fun N bs pl => nodeT (n : Int) (p : Int) false (0,0) (vB wO N bs pl) := by
    funext b p
    unfold nodeF
    rw [if_neg (by omega),if_pos hn]
    simp only [sev_most,bind_assoc]
    rfl
  rw [node_F h1,e1,rdS_bind,h2.bind,rdS_bind,h3.bind]
  unfold rdS
  split <;> rfl
end
attribute [local irreducible] callFunc Go.method J JL JO JR JR1 JRl Ct JG JM JM1 JW JW1 JQ JQ0 JS CtD xB by8 DrB smA uA uM wO someR uS vB
set_option maxRecDepth 8000 in
set_option maxHeartbeats 4000000 in
theorem cnode_u (c e : Nat) (bs : List UInt8) (pl : Int) (hpl : 0 ≤ pl ∧ pl + bs.length ≤ 1000000) : Ct Tryz.prog 76 #[ptr c] [vU c e 0 0,DrB e bs pl] (CurU (uS bs pl) c e erN (fun n => .agg (xR n).toArray) wG) := by
  have c1 := cnum_u c e 0 0 5 bs pl (by decide) (.ok hpl)
  refine yE (vs := [_]) Tryz.func76 rfl Tryz.ntmps76 (by simp) ?_
  repeat (first|(first|refine zB ?_|refine zE ?_|refine zG ?_)|(first|((first|refine zA rfl ?_);first|refine zD rfl rfl ?_|refine zS rfl (fun r => ?_))))
  revert r
  intro n2
  refine zA rfl (yK rfl c1 rfl (fun z hz => ?_))
  obtain ⟨n,k,q,b,p⟩ := z
  obtain ⟨h1,hn⟩ := hz
  dsimp only [id] at h1 hn ⊢
  rw [rdS_0] at h1
  repeat (first|(first|refine zB ?_|refine zE ?_|refine zG ?_)|(first|((first|refine zA rfl ?_);first|refine yG (cs := [.int .i64 (n : Int),.int .i64 0,.bool false,.int .i64 0,.int .i64 0,.slice none 0 0]) rfl rfl rfl ?_|refine zO rfl rfl (by rfl) (by rfl) (by simp [Value.oneCell']) rfl ?_|refine zC rfl rfl ?_|refine zF rfl rfl ?_|refine zH rfl rfl ?_|refine zS rfl (fun r => ?_))))
  revert r
  intro n3
  refine uI (α := { z : (Int × Int × Bool × (Int × Int)) × Nat × Int × Int × List UInt8 × Int // z.2.1 ≤ 8 ∧ GoodS z.2.2.1 z.2.2.2.1 z.2.2.2.2.1 z.2.2.2.2.2 ∧ uS bs pl = nodeT z.1.1 z.1.2.1 z.1.2.2.1 z.1.2.2.2 (rdS (vB wO z.2.1) z.2.2.1 z.2.2.2.1 z.2.2.2.2.1 z.2.2.2.2.2) }) (fun z => [(0,ptr c),(2,ptr n2),(3,ptr n3),(4,.int .i64 (z.1.2.1 : Int))]) (fun z => [pt n3 (.cells [.int .i64 z.1.1.1,.int .i64 z.1.1.2.1,.bool z.1.1.2.2.1,.int .i64 z.1.1.2.2.2.1,.int .i64 z.1.1.2.2.2.2,.slice none 0 0].toArray 58 (0,0)),pt n2 (.cells (xR ⟨0,0,false,(0,0),[],no0⟩).toArray 58 (0,0)),vU c e z.1.2.2.1 z.1.2.2.2.1,DrB e z.1.2.2.2.2.1 z.1.2.2.2.2.2]) ?_ ?_
  · rcases (show n = 0 ∨ n = 5 ∨ n = 1 ∨ n = 2 ∨ n = 3 ∨ n = 4 by omega) with rfl | rfl | rfl | rfl | rfl | rfl
    · repeat (first|(first|refine zB ?_|refine zE ?_|refine zG ?_|refine zK ?_|refine zL rfl ?_)|(first|((first|refine zA rfl ?_);first|refine JOq (yT rfl rfl (by omega)) rfl ?_|refine zC rfl rfl ?_)))
      exact ⟨⟨((0,0,false,0,0),0,k,q,b,p),by simp,h1.good,node_0 h1⟩,by (repeat (first|exact zM _|refine zI rfl ?_)),rfl,Ent.sel⟩
    · repeat (first|(first|refine zB ?_|refine zE ?_|refine zG ?_|refine zK ?_|refine zP ?_|refine zJ rfl ?_)|(first|((first|refine zA rfl ?_);first|refine JOq (yL rfl rfl (by omega)) rfl ?_|refine zC rfl rfl ?_)))
      exact ⟨⟨((5,0,false,0,0),1,k,q,b,p),by simp,h1.good,node_5 h1⟩,by (repeat (first|exact zM _|refine zI rfl ?_)),rfl,Ent.sel⟩
    · have c2 := cnum_u c e k q 1000 b p (by decide) h1.good
      repeat (first|(first|refine zB ?_|refine zE ?_|refine zG ?_|refine zK ?_|refine zP ?_|refine zL rfl ?_|refine zJ rfl ?_)|(first|((first|refine zA rfl ?_);first|refine JOq (yT rfl rfl (by omega)) rfl ?_|refine JOq (yL rfl rfl (by omega)) rfl ?_|refine zD rfl rfl ?_|refine zC rfl rfl ?_)))
      refine zA rfl (yK rfl c2 rfl (fun z hz => ?_))
      obtain ⟨pr,k2,q2,b2,p2⟩ := z
      obtain ⟨h2,hp⟩ := hz
      dsimp only [id] at h2 hp ⊢
      have c3 := cnum_u c e k2 q2 1 b2 p2 (by decide) h2.good
      repeat (first|(first|refine zB ?_|refine zE ?_|refine zG ?_)|(first|((first|refine zA rfl ?_);first|refine zD rfl rfl ?_|refine zF rfl rfl ?_|refine zW rfl rfl (by first | rfl | assumption) rfl ?_)))
      refine zA rfl (yK rfl c3 rfl (fun z hz => ?_))
      obtain ⟨fl,k3,q3,b3,p3⟩ := z
      obtain ⟨h3,hf⟩ := hz
      dsimp only [id] at h3 hf ⊢
      by_cases hf1 : fl = 1
      · subst hf1
        have c4 := cedge_u c e k3 q3 b3 p3 h3.good
        repeat (first|(first|refine zB ?_|refine zE ?_|refine zG ?_|refine zL rfl ?_)|(first|((first|refine zA rfl ?_);first|refine JOq (yT rfl rfl (by omega)) rfl ?_|refine zD rfl rfl ?_|refine zF rfl rfl ?_|refine zH rfl rfl ?_|refine zW rfl rfl (by first | rfl | assumption) rfl ?_)))
        refine zA rfl (yK rfl c4 rfl (fun z hz => ?_))
        obtain ⟨pay,k4,q4,b4,p4⟩ := z
        obtain ⟨h4,h5⟩ := hz
        dsimp only [id] at h4 h5 ⊢
        repeat (first|(first|refine zE ?_)|(first|((first|refine zA rfl ?_);first|refine JO_storeM (pre := [.int .i64 1,.int .i64 (pr : Int),.bool true]) (old := [.int .i64 0,.int .i64 0]) (post := [.slice none 0 0]) (vs := yI pay) rfl rfl rfl rfl rfl rfl (by simp [Value.oneCell']) rfl ?_|refine zF rfl rfl ?_)))
        exact ⟨⟨((1,(pr : Int),true,pay),1,k4,q4,b4,p4),by simp,h4.good,node_s1 (n := 1) (by decide) h1 h2 h3 h4⟩,by (repeat (first|exact zM _|refine zI rfl ?_)),rfl,(Ent.sel (K := [pt n3 (.cells (([.int .i64 1,.int .i64 (pr : Int),.bool true] : List Value) ++ yI pay ++ ([.slice none 0 0] : List Value)).toArray 58 (0,0)),pt n2 (.cells (xR ⟨0,0,false,(0,0),[],no0⟩).toArray 58 (0,0)),vU c e k4 q4,DrB e b4 p4]))⟩
      · repeat (first|(first|refine zB ?_|refine zE ?_|refine zG ?_|refine zP ?_|refine zJ rfl ?_)|(first|((first|refine zA rfl ?_);first|refine JOq (yL rfl rfl (by omega)) rfl ?_|refine zF rfl rfl ?_|refine zH rfl rfl ?_|refine zW rfl rfl (by first | rfl | assumption) rfl ?_)))
        exact ⟨⟨((1,(pr : Int),false,0,0),1,k3,q3,b3,p3),by simp,h3.good,node_s0 (n := 1) (by decide) h1 h2 h3 hf1⟩,by (repeat (first|exact zM _|refine zI rfl ?_)),rfl,Ent.sel⟩
    · have c2 := cnum_u c e k q 1000 b p (by decide) h1.good
      repeat (first|(first|refine zB ?_|refine zE ?_|refine zG ?_|refine zK ?_|refine zL rfl ?_|refine zJ rfl ?_)|(first|((first|refine zA rfl ?_);first|refine JOq (yT rfl rfl (by omega)) rfl ?_|refine JOq (yL rfl rfl (by omega)) rfl ?_|refine zD rfl rfl ?_|refine zC rfl rfl ?_)))
      refine zA rfl (yK rfl c2 rfl (fun z hz => ?_))
      obtain ⟨pr,k2,q2,b2,p2⟩ := z
      obtain ⟨h2,hp⟩ := hz
      dsimp only [id] at h2 hp ⊢
      have c3 := cnum_u c e k2 q2 1 b2 p2 (by decide) h2.good
      repeat (first|(first|refine zB ?_|refine zE ?_|refine zG ?_)|(first|((first|refine zA rfl ?_);first|refine zD rfl rfl ?_|refine zF rfl rfl ?_|refine zW rfl rfl (by first | rfl | assumption) rfl ?_)))
      refine zA rfl (yK rfl c3 rfl (fun z hz => ?_))
      obtain ⟨fl,k3,q3,b3,p3⟩ := z
      obtain ⟨h3,hf⟩ := hz
      dsimp only [id] at h3 hf ⊢
      by_cases hf1 : fl = 1
      · subst hf1
        have c4 := cedge_u c e k3 q3 b3 p3 h3.good
        repeat (first|(first|refine zB ?_|refine zE ?_|refine zG ?_|refine zL rfl ?_)|(first|((first|refine zA rfl ?_);first|refine JOq (yT rfl rfl (by omega)) rfl ?_|refine zD rfl rfl ?_|refine zF rfl rfl ?_|refine zH rfl rfl ?_|refine zW rfl rfl (by first | rfl | assumption) rfl ?_)))
        refine zA rfl (yK rfl c4 rfl (fun z hz => ?_))
        obtain ⟨pay,k4,q4,b4,p4⟩ := z
        obtain ⟨h4,h5⟩ := hz
        dsimp only [id] at h4 h5 ⊢
        repeat (first|(first|refine zE ?_)|(first|((first|refine zA rfl ?_);first|refine JO_storeM (pre := [.int .i64 2,.int .i64 (pr : Int),.bool true]) (old := [.int .i64 0,.int .i64 0]) (post := [.slice none 0 0]) (vs := yI pay) rfl rfl rfl rfl rfl rfl (by simp [Value.oneCell']) rfl ?_|refine zF rfl rfl ?_)))
        exact ⟨⟨((2,(pr : Int),true,pay),1,k4,q4,b4,p4),by simp,h4.good,node_s1 (n := 2) (by decide) h1 h2 h3 h4⟩,by (repeat (first|exact zM _|refine zI rfl ?_)),rfl,(Ent.sel (K := [pt n3 (.cells (([.int .i64 2,.int .i64 (pr : Int),.bool true] : List Value) ++ yI pay ++ ([.slice none 0 0] : List Value)).toArray 58 (0,0)),pt n2 (.cells (xR ⟨0,0,false,(0,0),[],no0⟩).toArray 58 (0,0)),vU c e k4 q4,DrB e b4 p4]))⟩
      · repeat (first|(first|refine zB ?_|refine zE ?_|refine zG ?_|refine zP ?_|refine zJ rfl ?_)|(first|((first|refine zA rfl ?_);first|refine JOq (yL rfl rfl (by omega)) rfl ?_|refine zF rfl rfl ?_|refine zH rfl rfl ?_|refine zW rfl rfl (by first | rfl | assumption) rfl ?_)))
        exact ⟨⟨((2,(pr : Int),false,0,0),1,k3,q3,b3,p3),by simp,h3.good,node_s0 (n := 2) (by decide) h1 h2 h3 hf1⟩,by (repeat (first|exact zM _|refine zI rfl ?_)),rfl,Ent.sel⟩
    · have c2 := cnum_u c e k q 1000 b p (by decide) h1.good
      repeat (first|(first|refine zB ?_|refine zE ?_|refine zG ?_|refine zK ?_|refine zP ?_|refine zL rfl ?_|refine zJ rfl ?_)|(first|((first|refine zA rfl ?_);first|refine JOq (yT rfl rfl (by omega)) rfl ?_|refine JOq (yL rfl rfl (by omega)) rfl ?_|refine zD rfl rfl ?_|refine zC rfl rfl ?_)))
      refine zA rfl (yK rfl c2 rfl (fun z hz => ?_))
      obtain ⟨pr,k2,q2,b2,p2⟩ := z
      obtain ⟨h2,hp⟩ := hz
      dsimp only [id] at h2 hp ⊢
      have c3 := csome_u c e k2 q2 8 b2 p2 (by decide) h2.good
      repeat (first|(first|refine zB ?_|refine zE ?_)|(first|((first|refine zA rfl ?_);first|refine zD rfl rfl ?_|refine zF rfl rfl ?_|refine zW rfl rfl (by first | rfl | assumption) rfl ?_)))
      refine zA rfl (yK rfl c3 rfl (fun z hz => ?_))
      obtain ⟨N,k3,q3,b3,p3⟩ := z
      obtain ⟨h3,hN⟩ := hz
      dsimp only [id] at h3 hN ⊢
      repeat (first|(first|refine zE ?_)|(first|((first|refine zA rfl ?_);first|refine zC rfl rfl ?_)))
      exact ⟨⟨((3,(pr : Int),false,0,0),N,k3,q3,b3,p3),by simp only;omega,h3.good,node_c (n := 3) (by decide) h1 h2 h3⟩,by (repeat (first|exact zM _|refine zI rfl ?_)),rfl,Ent.sel⟩
    · have c2 := cnum_u c e k q 1000 b p (by decide) h1.good
      repeat (first|(first|refine zB ?_|refine zE ?_|refine zG ?_|refine zK ?_|refine zL rfl ?_|refine zJ rfl ?_)|(first|((first|refine zA rfl ?_);first|refine JOq (yT rfl rfl (by omega)) rfl ?_|refine JOq (yL rfl rfl (by omega)) rfl ?_|refine zD rfl rfl ?_|refine zC rfl rfl ?_)))
      refine zA rfl (yK rfl c2 rfl (fun z hz => ?_))
      obtain ⟨pr,k2,q2,b2,p2⟩ := z
      obtain ⟨h2,hp⟩ := hz
      dsimp only [id] at h2 hp ⊢
      have c3 := csome_u c e k2 q2 8 b2 p2 (by decide) h2.good
      repeat (first|(first|refine zB ?_|refine zE ?_)|(first|((first|refine zA rfl ?_);first|refine zD rfl rfl ?_|refine zF rfl rfl ?_|refine zW rfl rfl (by first | rfl | assumption) rfl ?_)))
      refine zA rfl (yK rfl c3 rfl (fun z hz => ?_))
      obtain ⟨N,k3,q3,b3,p3⟩ := z
      obtain ⟨h3,hN⟩ := hz
      dsimp only [id] at h3 hN ⊢
      repeat (first|(first|refine zE ?_)|(first|((first|refine zA rfl ?_);first|refine zC rfl rfl ?_)))
      exact ⟨⟨((4,(pr : Int),false,0,0),N,k3,q3,b3,p3),by simp only;omega,h3.good,node_c (n := 4) (by decide) h1 h2 h3⟩,by (repeat (first|exact zM _|refine zI rfl ?_)),rfl,Ent.sel⟩
  rintro ⟨⟨⟨kind,prio,ch,pay1,pay2⟩,N,k',q',b',p'⟩,hN,hg,hR⟩
  dsimp only [thn] at hN hg hR ⊢
  rw [hR]
  clear hR h1 hn c1
  generalize hm : rdS (vB wO N) k' q' b' p' = m
  repeat (first|(first|refine zB ?_|refine zE ?_|refine zG ?_)|(first|((first|refine zA rfl ?_);first|refine zC rfl rfl ?_)))
  refine uI (α := { z : List (Int × Int) × Value × List Int × Int × Int × List UInt8 × Int // z.2.1.oneCell' = true ∧ OneS m (z.1.map id,z.2.2.1) z.2.2.2.1 z.2.2.2.2.1 z.2.2.2.2.2.1 z.2.2.2.2.2.2 }) (fun z => [(0,ptr c),(2,ptr n2),(3,ptr n3)]) (fun z => [yC 55 2 z.1.2.1 z.1.1.length (z.1.1.flatMap yI),pt n3 (.cells [.int .i64 kind,.int .i64 prio,.bool ch,.int .i64 pay1,.int .i64 pay2,z.1.2.1].toArray 58 (0,0)),pt n2 (.cells (xR ⟨0,0,false,(0,0),[],no0⟩).toArray 58 (0,0)),vU c e z.1.2.2.2.1 z.1.2.2.2.2.1,DrB e z.1.2.2.2.2.2.1 z.1.2.2.2.2.2.2]) ?_ ?_
  · repeat (first|(first|refine zK ?_)|(first|((first|refine zA rfl ?_);first|refine zD rfl rfl ?_)))
    refine xQ (own0 (e := 55) (sz := 2)) ?_
    refine xU (β := { z : Nat × List (Int × Int) × Value × List Int × Int × Int × List UInt8 × Int // z.2.2.1.oneCell' = true ∧ LoopS m wO id N z.1 z.2.1 z.2.2.2.1 z.2.2.2.2.1 z.2.2.2.2.2.1 z.2.2.2.2.2.2.1 z.2.2.2.2.2.2.2 }) (fun z => [(0,ptr c),(2,ptr n2),(3,ptr n3),(4,.int .i64 (N : Int)),(5,.int .i64 (z.1.1 : Int))]) (fun _ => []) (fun z => [yC 55 2 z.1.2.2.1 z.1.2.1.length (z.1.2.1.flatMap yI),pt n3 (.cells [.int .i64 kind,.int .i64 prio,.bool ch,.int .i64 pay1,.int .i64 pay2,z.1.2.2.1].toArray 58 (0,0)),pt n2 (.cells (xR ⟨0,0,false,(0,0),[],no0⟩).toArray 58 (0,0)),vU c e z.1.2.2.2.2.1 z.1.2.2.2.2.2.1,DrB e z.1.2.2.2.2.2.2.1 z.1.2.2.2.2.2.2.2]) (fun z => N - z.1.1) ⟨(0,[],.slice none 0 0,[],k',q',b',p'),rfl,.start hg hm.symm⟩ ?_ rfl ?_ ?_
    · (repeat (first|exact zM _|refine zI rfl ?_))
    · simp only [List.flatMap_nil,List.length_nil]
      exact Ent.sel
    rintro ⟨⟨i,es,v,ps,k,q,b,p⟩,hv,hl⟩
    dsimp only at hv hl ⊢
    obtain ⟨h1,h2,h3⟩ := hl.1
    by_cases hi : i < N
    · by_cases hk : k = 0
      · subst hk
        obtain ⟨rfl,hb⟩ := hl.good rfl
        have cb := cbad_f c e 0
        have d := cedge_u c e 0 0 b p (.ok hb)
        rw [rdS_0] at d
        repeat (first|(first|refine zB ?_|refine zE ?_|refine zG ?_|refine zK ?_|refine zP ?_|refine zL rfl ?_)|(first|((first|refine zA rfl ?_|refine zZ rfl rfl ?_);first|refine JOq (yH rfl rfl (by omega)) rfl ?_|refine zD rfl rfl ?_|refine yA rfl rfl rfl ?_|refine xD rfl rfl ?_|refine zN rfl (cb) rfl ?_)))
        refine uI (α := { y : Value × (Int × Int) × Int × Int × List UInt8 × Int // y.1.oneCell' = true ∧ OneS (wO b p) y.2.1 y.2.2.1 y.2.2.2.1 y.2.2.2.2.1 y.2.2.2.2.2 }) (fun _ => [(0,ptr c),(2,ptr n2),(3,ptr n3),(4,.int .i64 (N : Int)),(5,.int .i64 (i : Int))]) (fun y => [yC 55 2 y.1.1 (es.length + 1) (es.flatMap yI ++ yI y.1.2.1),pt n3 (.cells [.int .i64 kind,.int .i64 prio,.bool ch,.int .i64 pay1,.int .i64 pay2,y.1.1].toArray 58 (0,0)),pt n2 (.cells (xR ⟨0,0,false,(0,0),[],no0⟩).toArray 58 (0,0)),vU c e y.1.2.2.1 y.1.2.2.2.1,DrB e y.1.2.2.2.2.1 y.1.2.2.2.2.2]) ?_ ?_
        · refine J_calm ?_
          refine tM 7 [pt n3 (.cells [.int .i64 kind,.int .i64 prio,.bool ch,.int .i64 pay1,.int .i64 pay2,v].toArray 58 (0,0))] Ent.sel ?_
          (refine yO 0 rfl rfl (by kernel_rfl) (by kernel_rfl) (by kernel_rfl) rfl rfl rfl rfl Ent.sel (by first|exact xP rfl) ?_;refine yO 1 rfl rfl (by kernel_rfl) (by kernel_rfl) (by kernel_rfl) rfl rfl rfl rfl Ent.sel (by first|exact xL rfl) ?_;refine yO 2 rfl rfl (by kernel_rfl) (by kernel_rfl) (by kernel_rfl) rfl rfl rfl rfl Ent.sel (by first|exact xE rfl) ?_)
          repeat' (first|refine JM_fin rfl ?_|refine wW rfl ?_|refine xT rfl rfl (by first|exact xN|exact zX xC|exact zX (fun _ _ _ _ h => .inr (yD _ _ _ _ h))) (yK rfl d rfl (fun y hy => ⟨by first|exact (fun _ => Ent.sel),?_⟩))|refine xT rfl rfl (by first|exact zX xC|exact zX (fun _ _ _ _ h => .inr (yD _ _ _ _ h))) (zF rfl rfl ⟨by first|exact (fun _ => Ent.sel),?_⟩)|refine xT rfl rfl (by first|exact zX xC|exact zX (fun _ _ _ _ h => .inr (yD _ _ _ _ h))) (yP (n := 2) (vs := [.agg (yI _).toArray]) (cs := yI _) rfl rfl (hc := cat_agg1 2 (yI _) rfl) rfl (by decide) rfl (fun r9 => ⟨by first|exact (fun _ => Ent.sel),?_⟩))|refine xT rfl rfl (by first|exact zX xC|exact zX (fun _ _ _ _ h => .inr (yD _ _ _ _ h))) (wM (sz := 2) (n := es.length) (m := 1) (news := yI _) rfl rfl wL rfl (by decide) rfl (by simp [Value.oneCell']) (Nat.le_trans (Nat.mul_le_mul_right _ (show es.length + 1 ≤ 1001 by omega)) (by decide)) (by decide) rfl (fun v' hv' => ⟨by first|exact (fun _ => Ent.sel),?_⟩))|refine xT rfl rfl (by first|exact zX xC) (zW rfl rfl (by first | rfl | assumption) rfl ⟨by first|exact (fun h => absurd h (by decide))|exact (fun _ => Ent.nil),?_⟩))
          all_goals exact ⟨⟨(v',y),by assumption,hy.1⟩,by (repeat (first|exact zM _|refine zI rfl ?_)),rfl,Ent.sel⟩
        rintro ⟨⟨v',x,k2,q2,b2,p2⟩,hv',hx⟩
        dsimp only [inB,thn] at hv' hx ⊢
        repeat (first|(first|refine zB ?_|refine zE ?_)|(first|((first|refine zA rfl ?_);first|refine yZ (b := 1) rfl rfl (by omega) rfl ?_|refine zD rfl rfl ?_|refine zC rfl rfl ?_)))
        refine ⟨⟨(i + 1,es ++ [x],v',ps ++ [p],k2,q2,b2,p2),hv',hl.step hi hx⟩,by simp only;omega,by (repeat (first|exact zM _|refine zI rfl ?_)),rfl,?_⟩
        simp only [List.flatMap_append,List.flatMap_singleton,List.length_append,List.length_singleton]
        exact Ent.sel
      · have cb := cbad_t c e k q hk
        repeat (first|(first|refine zB ?_|refine zE ?_|refine zG ?_|refine zJ rfl ?_|refine xA ?_)|(first|((first|refine zA rfl ?_|refine zZ rfl rfl ?_);first|refine JOq (yH rfl rfl (by omega)) rfl ?_|refine zD rfl rfl ?_|refine yA rfl rfl rfl ?_|refine xD rfl rfl ?_|refine zN rfl (cb) rfl ?_)))
        exact ⟨⟨(es,v,ps,k,q,b,p),hv,hl.done (fun h => absurd h hk)⟩,by (repeat (first|exact zM _|refine zI rfl ?_)),rfl,Ent.sel⟩
    · repeat (first|(first|refine zB ?_|refine zE ?_|refine zG ?_|refine zJ rfl ?_|refine xA ?_)|(first|((first|refine zA rfl ?_);first|refine JOq (yS rfl rfl (by omega)) rfl ?_|refine zD rfl rfl ?_|refine yJ rfl rfl rfl ?_)|refine yU rfl rfl rfl ?_))
      exact ⟨⟨(es,v,ps,k,q,b,p),hv,hl.done (fun _ => by omega)⟩,by (repeat (first|exact zM _|refine zI rfl ?_)),rfl,Ent.sel⟩
  rintro ⟨⟨es,v,ps,k,q,b,p⟩,hv,ho⟩
  dsimp only [thn] at hv ho ⊢
  rw [List.map_id] at ho
  refine wQ (yC 55 2 v es.length (es.flatMap yI)) ?_
  refine uU (fun pv cv hv hc => ?_)
  subst hv
  repeat (first|(first|refine zB ?_|refine zE ?_|refine zG ?_|refine zV ?_)|(first|((first|refine zA rfl ?_);first|refine zO rfl rfl (by rfl) (by rfl) (by simp [Value.oneCell']) rfl ?_|refine zU rfl (by rfl) rfl ?_)))
  exact ⟨rfl,_,wT (cs := xR ⟨kind,prio,ch,(pay1,pay2),es,(pv,cv)⟩) rfl rfl rfl,[wG ⟨kind,prio,ch,(pay1,pay2),es,(pv,cv)⟩,vU c e k q,DrB e b p],Ent.sel,((⟨kind,prio,ch,(pay1,pay2),es,(pv,cv)⟩ : Nod),k,q,b,p),nodeT_one ho,rfl,rfl⟩
end Go.Proofs.YtickblndgihoeaaGreatDoor
