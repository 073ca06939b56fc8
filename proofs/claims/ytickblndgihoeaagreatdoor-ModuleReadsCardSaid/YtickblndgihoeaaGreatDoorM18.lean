/- Layer 3: the program splits. -/
import Derived.Test.YtickblndgihoeaaGreatDoorM17
import Derived.Test.YtickblndgihoeaaGreatDoorM5
set_option linter.unusedSimpArgs false
namespace Go.Proofs.YtickblndgihoeaaGreatDoor
open Go Go.Sp
def Fact (p : Prop) : HP := fun _ => p
theorem wD {p : Prop} {L : List HP} (h : p) : Ent L (Fact p :: L) := fun _ _ hs => (hs.add h).swap
theorem spl_len (bs : List UInt8) (h : (begA headL bs 0).1 = 0) : (5 ≤ (s1A bs).pl ∧ (s1A bs).pl + (s1A bs).rest.length = bs.length) ∧ (5 ≤ (s2A bs).pl ∧ (s2A bs).pl + (s2A bs).rest.length = bs.length) := by
  have p1 := secA_pl 1 (bs.drop 5) 5
  have p2 := secA_pl 2 (s1A bs).rest (s1A bs).pl
  change (s1A bs).pl + (s1A bs).rest.length = _ ∧ 5 ≤ (s1A bs).pl at p1
  change (s2A bs).pl + (s2A bs).rest.length = _ ∧ (s1A bs).pl ≤ (s2A bs).pl at p2
  have := congrArg List.length (begA_inv headL bs 0 h)
  rw [List.length_append] at this
  simp only [headL,List.length_cons,List.length_nil,List.length_drop] at this p1
  omega
theorem three_none {A : HP} {c pl pl2 pl3 : Int} {b1 b2 b3 : List UInt8} {L : List HP} (hc : c ≠ 0) : Ent (A :: L) (A :: PtR (.pointer none) c b1 pl :: PtR (.pointer none) c b2 pl2 :: PtR (.pointer none) c b3 pl3 :: L) := fun F w hs => by
  have h1 : Sat w (PtR (.pointer none) c b1 pl :: PtR (.pointer none) c b2 pl2 :: PtR (.pointer none) c b3 pl3 :: F :: A :: L) := ((hs.add (.inl ⟨hc,rfl⟩)).add (.inl ⟨hc,rfl⟩)).add (.inl ⟨hc,rfl⟩)
  exact h1.perm ( (List.perm_append_comm (l₁ := [PtR (.pointer none) c b1 pl,PtR (.pointer none) c b2 pl2,PtR (.pointer none) c b3 pl3]) (l₂ := [F,A])).append_right L)
theorem fact_out {p : Prop} : ∀ k,Fact p k → p := fun _ h => h
attribute [local irreducible] callFunc Go.method J JL JO JR JR1 JRl Ct JG JM JM1 JQ JQ0 JS CtD xB RdB Er by8 uA ibits smA PtR k1A stage Fact
theorem endM_cc {α : Type} {φ : α → Prop} {v : α → Value} {L0 : α → List HP} {P : Program} {N : Nat} {E : Env} {L : List HP} {r : Nat} {M : List HP} [h : Tk (pt r (.deferred (some []))) L M] {fn : Func} {a t c u : Nat} {y z : Value} (hr : fn.results = #[.cell a t,.cell c u]) (h1 : Gives P E M a t y) (h2 : Gives P E M c u z) (x : α) (hφ : φ x) (hv : Value.tuple #[y,z] = v x) (he : Ent M (L0 x)) :
    bodyQM P N fn (RetE φ v L0) .ret E [collected r] L := ⟨r,M,rfl,h.h,_,uO hr h1 h2,_,he,x,hφ,by rw [hv],rfl⟩
set_option maxHeartbeats 4000000 in
theorem split_c (bs : List UInt8) (hb : bs.length ≤ 1000000) :
    Ct Tryz.prog 18 #[str bs] [] (RetE (fun _ : Value × Value × Value × Value => True) (fun x => .tuple #[.agg #[x.1,x.2.1,x.2.2.1],x.2.2.2])
      (fun x => [Er x.2.2.2 (tE bs).1 (tE bs).2,PtR x.1 (tE bs).1 (s1A bs).part (s1A bs).at_,PtR x.2.1 (tE bs).1 (s2A bs).part (s2A bs).at_,PtR x.2.2.1 (tE bs).1 (s3A bs).part (s3A bs).at_])) := by
  have hm : bs.length ≤ maxLen := Nat.le_trans hb (by decide)
  have hbeg : ∀ b,Ct Tryz.prog 44 #[ptr b] [RdB b bs 0] _ := fun b => begin_c b bs 0 (by omega)
  have hR : (begA headL bs 0).1 = 0 → begR headL bs 0 = (bs.drop 5,5) := begR_ok headL bs 0
  have g0 : (5 : Int) + ((bs.drop 5).length : Int) ≤ 1000005 := by rw [List.length_drop];omega
  have p1 := secA_pl 1 (bs.drop 5) 5
  have p2 := secA_pl 2 (s1A bs).rest (s1A bs).pl
  have c1 : (begA headL bs 0).1 = 0 → ∀ b,Ct Tryz.prog 45 #[ptr b,.int .u8 1] [RdB b (bs.drop 5) 5] (RetE (fun x : Value × Value => x.1.oneCell' = true) (fun x => .tuple #[x.1,x.2]) (fun x => [Er x.2 (s1A bs).c (s1A bs).a,PtR x.1 (s1A bs).c (s1A bs).part (s1A bs).at_,RdB b (s1A bs).rest (s1A bs).pl])) := fun h b => section_c b 1 (bs.drop 5) 5 ⟨by omega,by
    have := congrArg List.length (begA_inv headL bs 0 h)
    rw [List.length_append] at this
    simp only [headL,List.length_cons,List.length_nil,List.length_drop] at this ⊢
    omega⟩
  have c2 : (begA headL bs 0).1 = 0 → ∀ b,Ct Tryz.prog 45 #[ptr b,.int .u8 2] [RdB b (s1A bs).rest (s1A bs).pl] (RetE (fun x : Value × Value => x.1.oneCell' = true) (fun x => .tuple #[x.1,x.2]) (fun x => [Er x.2 (s2A bs).c (s2A bs).a,PtR x.1 (s2A bs).c (s2A bs).part (s2A bs).at_,RdB b (s2A bs).rest (s2A bs).pl])) := fun h b => section_c b 2 (s1A bs).rest (s1A bs).pl (by have := spl_len bs h;omega)
  have c3 : (begA headL bs 0).1 = 0 → ∀ b,Ct Tryz.prog 45 #[ptr b,.int .u8 3] [RdB b (s2A bs).rest (s2A bs).pl] (RetE (fun x : Value × Value => x.1.oneCell' = true) (fun x => .tuple #[x.1,x.2]) (fun x => [Er x.2 (s3A bs).c (s3A bs).a,PtR x.1 (s3A bs).c (s3A bs).part (s3A bs).at_,RdB b (s3A bs).rest (s3A bs).pl])) := fun h b => section_c b 3 (s2A bs).rest (s2A bs).pl (by have := spl_len bs h;omega)
  have ce : ∀ b,_ := fun b => end_E b (s3A bs).rest (s3A bs).pl
  have x0 : (begA headL bs 0).1 ≠ 0 → tE bs = begA headL bs 0 := fun h => by unfold tE;rw [if_pos h]
  have x1 : (begA headL bs 0).1 = 0 → (s1A bs).c ≠ 0 → tE bs = ((s1A bs).c,(s1A bs).a) := fun h h1 => by unfold tE;rw [if_neg (by simpa using h),if_pos h1]
  have x2 : (begA headL bs 0).1 = 0 → (s1A bs).c = 0 → (s2A bs).c ≠ 0 → tE bs = ((s2A bs).c,(s2A bs).a) := fun h h1 h2 => by unfold tE;rw [if_neg (by simpa using h),if_neg (by simpa using h1),if_pos h2]
  have x3 : (begA headL bs 0).1 = 0 → (s1A bs).c = 0 → (s2A bs).c = 0 → (s3A bs).c ≠ 0 → tE bs = ((s3A bs).c,(s3A bs).a) := fun h h1 h2 h3 => by unfold tE;rw [if_neg (by simpa using h),if_neg (by simpa using h1),if_neg (by simpa using h2),if_pos h3]
  have x4 : (begA headL bs 0).1 = 0 → (s1A bs).c = 0 → (s2A bs).c = 0 → (s3A bs).c = 0 → tE bs = endA (s3A bs).rest (s3A bs).pl := fun h h1 h2 h3 => by unfold tE;rw [if_neg (by simpa using h),if_neg (by simpa using h1),if_neg (by simpa using h2),if_neg (by simpa using h3)]
  generalize tE bs = Z at *
  generalize endA (s3A bs).rest (s3A bs).pl = Y at *
  generalize s1A bs = W1 at *
  generalize s2A bs = W2 at *
  generalize s3A bs = W3 at *
  refine fn_retM (vs := [_]) Tryz.func18 rfl Tryz.ntmps18 (by simp) ?_
  repeat (first|(first|refine zB ?_|refine zE ?_|refine zG ?_)|(first|((first|refine zA rfl ?_);first|refine yK rfl (newreader_B bs hm) rfl (fun b _ => ?_)|refine zD rfl rfl ?_|refine zH rfl rfl ?_|refine zS rfl (fun r => ?_)|refine tL (by rfl) rfl (fun r => ?_)|refine zW rfl rfl (by first | rfl | assumption) rfl ?_)))
  rename_i n2 n3 _
  revert r
  intro n4
  repeat (first|(first|refine zB ?_|refine zE ?_|refine zG ?_)|(first|((first|refine zA rfl ?_);first|refine yK rfl (hbeg b) rfl (fun v _ => ?_)|refine zD rfl rfl ?_|refine zC rfl rfl ?_)))
  refine JL_er (fun h0 h00 hv => ?_) (fun q h0 hv => ?_)
  · subst hv
    have c1 := c1 h0
    have c2 := c2 h0
    have c3 := c3 h0
    have x1 := x1 h0
    have x2 := x2 h0
    have x3 := x3 h0
    have x4 := x4 h0
    rw [hR h0]
    repeat (first|(first|refine zB ?_|refine zE ?_|refine zG ?_|refine zK ?_|refine zP ?_|refine zJ rfl ?_)|(first|((first|refine zA rfl ?_);first|refine JOq (uJ rfl) rfl ?_|refine zN rfl sections_c rfl ?_|refine zU rfl (by rfl) rfl ?_|refine zS rfl (fun r => ?_)|refine zO rfl rfl (by rfl) (by rfl) (by first | decide | simp [Value.oneCell']) rfl ?_)))
    revert r
    intro n6
    refine J_range (σ := { v : Value × Value × Value // v.1.oneCell' = true ∧ v.2.1.oneCell' = true ∧ v.2.2.oneCell' = true }) (τ := Value) (fun i v => stage i [pt n2 (.cells #[.pointer none,.pointer none,.pointer none] 71 (0,0)),pt n3 (.cells #[.nilIface] 43 (0,0)),pt n4 (.cells #[ptr b] 70 (0,0)),pt n6 (.cells #[.pointer none,.pointer none,.pointer none] 71 (0,0)),RdB b (bs.drop 5) 5] [Fact (W1.c = 0),pt n2 (.cells #[.pointer none,.pointer none,.pointer none] 71 (0,0)),pt n3 (.cells #[.nilIface] 43 (0,0)),pt n4 (.cells #[ptr b] 70 (0,0)),pt n6 (.cells #[v.1.1,.pointer none,.pointer none] 71 (0,0)),PtR v.1.1 W1.c W1.part W1.at_,RdB b W1.rest W1.pl] [Fact (W1.c = 0 ∧ W2.c = 0),pt n2 (.cells #[.pointer none,.pointer none,.pointer none] 71 (0,0)),pt n3 (.cells #[.nilIface] 43 (0,0)),pt n4 (.cells #[ptr b] 70 (0,0)),pt n6 (.cells #[v.1.1,v.1.2.1,.pointer none] 71 (0,0)),PtR v.1.1 W1.c W1.part W1.at_,PtR v.1.2.1 W2.c W2.part W2.at_,RdB b W2.rest W2.pl] [Fact (W1.c = 0 ∧ W2.c = 0 ∧ W3.c = 0),pt n2 (.cells #[.pointer none,.pointer none,.pointer none] 71 (0,0)),pt n3 (.cells #[.nilIface] 43 (0,0)),pt n4 (.cells #[ptr b] 70 (0,0)),pt n6 (.cells #[v.1.1,v.1.2.1,v.1.2.2] 71 (0,0)),PtR v.1.1 W1.c W1.part W1.at_,PtR v.1.2.1 W2.c W2.part W2.at_,PtR v.1.2.2 W3.c W3.part W3.at_,RdB b W3.rest W3.pl]) (fun _ => .ret)
      (fun v => [Er v Z.1 Z.2,Fact (Z.1 ≠ 0),pt n2 (.cells #[.pointer none,.pointer none,.pointer none] 71 (0,0)),pt n3 (.cells #[v] 43 (0,0))]) rfl sections1_c ?_ ?_ ⟨(.pointer none,.pointer none,.pointer none),rfl,rfl,rfl⟩ ?_ ?_ ?_ ?_
    · intro x hx
      simp only [secsV,List.mem_cons,List.not_mem_nil,or_false] at hx
      rcases hx with rfl | rfl | rfl <;> rfl
    · decide
    · rw [stage_0]
      exact Ent.sel (K := [pt n2 (.cells #[.pointer none,.pointer none,.pointer none] 71 (0,0)),pt n3 (.cells #[.nilIface] 43 (0,0)),pt n4 (.cells #[ptr b] 70 (0,0)),pt n6 (.cells #[.pointer none,.pointer none,.pointer none] 71 (0,0)),RdB b (bs.drop 5) 5])
    · intro l rec i x s hx
      match i,hx with
      | 0,hx =>
        obtain rfl : [Value.int .i64 ((0 : Nat) : Int),.int .u8 1] = x := Option.some.inj hx
        dsimp only
        rw [stage_0]
        repeat (first|(first|refine zB ?_|refine zE ?_|refine zG ?_|refine zK ?_)|(first|((first|refine zA rfl ?_);first|refine zD rfl rfl ?_|refine zC rfl rfl ?_|refine zH rfl rfl ?_)))
        refine zA rfl (yK rfl (c1 b) rfl (fun y hy => ?_))
        obtain ⟨y1,y2⟩ := y
        dsimp only at hy ⊢
        refine JL_er (fun h1 h11 hv => ?_) (fun q h1 hv => ?_)
        · subst hv
          repeat (first|(first|refine zB ?_|refine zE ?_|refine zG ?_|refine zP ?_|refine zJ rfl ?_)|(first|((first|refine zA rfl ?_);first|refine JOq (uJ rfl) rfl ?_|refine JOq (yR 0 (j := 0) rfl rfl (by omega) rfl) rfl ?_|refine zD rfl rfl ?_|refine zH rfl rfl ?_|refine zT rfl rfl rfl ?_|refine zW rfl rfl (by first | rfl | assumption) rfl ?_)))
          refine ⟨⟨(y1,.pointer none,.pointer none),hy,rfl,rfl⟩,?_⟩
          show Ent _ (_ :: stage 1 _ _ _ _)
          rw [stage_1]
          exact (wD (p := W1.c = 0) h1).trans .sel
        · subst hv
          repeat (first|(first|refine zB ?_|refine zE ?_|refine zG ?_|refine zL rfl ?_)|(first|((first|refine zA rfl ?_);first|refine JOq (JQ_neIf1 rfl) rfl ?_|refine JOq (yR 0 (j := 0) rfl rfl (by omega) rfl) rfl ?_|refine zD rfl rfl ?_|refine zH rfl rfl ?_|refine zT rfl rfl rfl ?_|refine zW rfl rfl (by first | rfl | assumption) rfl ?_)))
          repeat' (first|refine J_regionR ?_|refine JR_end rfl ?_|refine JR_step rfl ?_|exact jrl_nil|refine jrl_no rfl ?_|refine jrl_yes rfl ?_ ?_|(first|((first|refine JR_op rfl rfl ?_);first|refine zH rfl rfl ?_|refine zU rfl (by rfl) rfl ?_|refine zW rfl rfl (by first | rfl | assumption) rfl ?_|refine zO rfl rfl (by rfl) (by rfl) (by first | decide | simp [Value.oneCell']) rfl ?_)))
          all_goals (refine zV ?_;refine ⟨xH q,rfl,?_⟩;rw [x1 h1];exact (wD (p := W1.c ≠ 0) h1).trans ((Ent.sel (K := [Ft q W1.c W1.a,pt l (.loop rec),Fact (W1.c ≠ 0),pt n2 (.cells #[.pointer none,.pointer none,.pointer none] 71 (0,0)),pt n3 (.cells #[xH q] 43 (0,0))])).trans ((tH h1).trans ent_perm2)))
      | 1,hx =>
        obtain rfl : [Value.int .i64 ((1 : Nat) : Int),.int .u8 2] = x := Option.some.inj hx
        dsimp only
        rw [stage_1]
        refine J_say fact_out (fun hf => ?_)
        repeat (first|(first|refine zB ?_|refine zE ?_|refine zG ?_|refine zK ?_)|(first|((first|refine zA rfl ?_);first|refine zD rfl rfl ?_|refine zC rfl rfl ?_|refine zH rfl rfl ?_)))
        refine zA rfl (yK rfl (c2 b) rfl (fun y hy => ?_))
        obtain ⟨y1,y2⟩ := y
        dsimp only at hy ⊢
        refine JL_er (fun h1 h11 hv => ?_) (fun q h1 hv => ?_)
        · subst hv
          repeat (first|(first|refine zB ?_|refine zE ?_|refine zG ?_|refine zP ?_|refine zJ rfl ?_)|(first|((first|refine zA rfl ?_);first|refine JOq (uJ rfl) rfl ?_|refine JOq (yR 1 (j := 1) rfl rfl (by omega) rfl) rfl ?_|refine zD rfl rfl ?_|refine zH rfl rfl ?_|refine zT rfl rfl rfl ?_|refine zW rfl rfl (by first | rfl | assumption) rfl ?_)))
          refine ⟨⟨(s.1.1,y1,.pointer none),s.2.1,hy,rfl⟩,?_⟩
          show Ent _ (_ :: stage 2 _ _ _ _)
          rw [stage_2]
          exact (wD (p := W1.c = 0 ∧ W2.c = 0) ⟨hf,h1⟩).trans .sel
        · subst hv
          repeat (first|(first|refine zB ?_|refine zE ?_|refine zG ?_|refine zL rfl ?_)|(first|((first|refine zA rfl ?_);first|refine JOq (JQ_neIf1 rfl) rfl ?_|refine JOq (yR 1 (j := 1) rfl rfl (by omega) rfl) rfl ?_|refine zD rfl rfl ?_|refine zH rfl rfl ?_|refine zT rfl rfl rfl ?_|refine zW rfl rfl (by first | rfl | assumption) rfl ?_)))
          repeat' (first|refine J_regionR ?_|refine JR_end rfl ?_|refine JR_step rfl ?_|exact jrl_nil|refine jrl_no rfl ?_|refine jrl_yes rfl ?_ ?_|(first|((first|refine JR_op rfl rfl ?_);first|refine zH rfl rfl ?_|refine zU rfl (by rfl) rfl ?_|refine zW rfl rfl (by first | rfl | assumption) rfl ?_|refine zO rfl rfl (by rfl) (by rfl) (by first | decide | simp [Value.oneCell']) rfl ?_)))
          all_goals (refine zV ?_;refine ⟨xH q,rfl,?_⟩;rw [x2 hf h1];exact (wD (p := W2.c ≠ 0) h1).trans ((Ent.sel (K := [Ft q W2.c W2.a,pt l (.loop rec),Fact (W2.c ≠ 0),pt n2 (.cells #[.pointer none,.pointer none,.pointer none] 71 (0,0)),pt n3 (.cells #[xH q] 43 (0,0))])).trans ((tH h1).trans ent_perm2)))
      | 2,hx =>
        obtain rfl : [Value.int .i64 ((2 : Nat) : Int),.int .u8 3] = x := Option.some.inj hx
        dsimp only
        rw [stage_2]
        refine J_say fact_out (fun hf => ?_)
        repeat (first|(first|refine zB ?_|refine zE ?_|refine zG ?_|refine zK ?_)|(first|((first|refine zA rfl ?_);first|refine zD rfl rfl ?_|refine zC rfl rfl ?_|refine zH rfl rfl ?_)))
        refine zA rfl (yK rfl (c3 b) rfl (fun y hy => ?_))
        obtain ⟨y1,y2⟩ := y
        dsimp only at hy ⊢
        refine JL_er (fun h1 h11 hv => ?_) (fun q h1 hv => ?_)
        · subst hv
          repeat (first|(first|refine zB ?_|refine zE ?_|refine zG ?_|refine zP ?_|refine zJ rfl ?_)|(first|((first|refine zA rfl ?_);first|refine JOq (uJ rfl) rfl ?_|refine JOq (yR 2 (j := 2) rfl rfl (by omega) rfl) rfl ?_|refine zD rfl rfl ?_|refine zH rfl rfl ?_|refine zT rfl rfl rfl ?_|refine zW rfl rfl (by first | rfl | assumption) rfl ?_)))
          refine ⟨⟨(s.1.1,s.1.2.1,y1),s.2.1,s.2.2.1,hy⟩,?_⟩
          show Ent _ (_ :: stage 3 _ _ _ _)
          rw [stage_3]
          exact (wD (p := W1.c = 0 ∧ W2.c = 0 ∧ W3.c = 0) ⟨hf.1,hf.2,h1⟩).trans .sel
        · subst hv
          repeat (first|(first|refine zB ?_|refine zE ?_|refine zG ?_|refine zL rfl ?_)|(first|((first|refine zA rfl ?_);first|refine JOq (JQ_neIf1 rfl) rfl ?_|refine JOq (yR 2 (j := 2) rfl rfl (by omega) rfl) rfl ?_|refine zD rfl rfl ?_|refine zH rfl rfl ?_|refine zT rfl rfl rfl ?_|refine zW rfl rfl (by first | rfl | assumption) rfl ?_)))
          repeat' (first|refine J_regionR ?_|refine JR_end rfl ?_|refine JR_step rfl ?_|exact jrl_nil|refine jrl_no rfl ?_|refine jrl_yes rfl ?_ ?_|(first|((first|refine JR_op rfl rfl ?_);first|refine zH rfl rfl ?_|refine zU rfl (by rfl) rfl ?_|refine zW rfl rfl (by first | rfl | assumption) rfl ?_|refine zO rfl rfl (by rfl) (by rfl) (by first | decide | simp [Value.oneCell']) rfl ?_)))
          all_goals (refine zV ?_;refine ⟨xH q,rfl,?_⟩;rw [x3 hf.1 hf.2 h1];exact (wD (p := W3.c ≠ 0) h1).trans ((Ent.sel (K := [Ft q W3.c W3.a,pt l (.loop rec),Fact (W3.c ≠ 0),pt n2 (.cells #[.pointer none,.pointer none,.pointer none] 71 (0,0)),pt n3 (.cells #[xH q] 43 (0,0))])).trans ((tH h1).trans ent_perm2)))
      | k + 3,hx => simp [secsV] at hx
    · intro rr s
      rw [show secsV.length = 3 from rfl,stage_3]
      refine wE (fun _ _ hs => hs.tail.tail.out fact_out) (fun hf => ?_)
      obtain ⟨f1,f2,f3⟩ := hf
      obtain ⟨⟨v1,v2,v3⟩,o1,o2,o3⟩ := s
      dsimp only at o1 o2 o3 ⊢
      rw [x4 f1 f2 f3,f1,f2,f3]
      repeat (first|(first|refine zB ?_|refine zE ?_|refine zG ?_)|(first|((first|refine zA rfl ?_);first|refine yK rfl (ce b) rfl (fun v _ => ?_)|refine zD rfl rfl ?_|refine zC rfl rfl ?_|refine zH rfl rfl ?_)))
      refine JL_er (fun h1 h11 hv => ?_) (fun q h1 hv => ?_)
      · subst hv
        rw [h1,h11]
        repeat (first|(first|refine zB ?_|refine zE ?_|refine zG ?_|refine zP ?_|refine zJ rfl ?_|refine zV ?_)|(first|((first|refine zA rfl ?_);first|refine JOq (uJ rfl) rfl ?_|refine zO rfl rfl (by rfl) (by rfl) (by simp [o1,o2,o3]) rfl ?_|refine zU rfl (by rfl) rfl ?_|refine zW rfl rfl (by first | rfl | assumption) rfl ?_)))
        exact endM_cc rfl (yV (n := 3) rfl (by rfl)) (gives_1 rfl rfl) (v1,v2,v3,.nilIface) trivial rfl ((Ent.sel (K := [PtR v1 0 W1.part W1.at_,PtR v2 0 W2.part W2.at_,PtR v3 0 W3.part W3.at_])).trans er_none)
      · subst hv
        repeat (first|(first|refine zB ?_|refine zE ?_|refine zG ?_|refine zL rfl ?_|refine zV ?_)|(first|((first|refine zA rfl ?_);first|refine JOq (JQ_neIf1 rfl) rfl ?_|refine zD rfl rfl ?_|refine zU rfl (by rfl) rfl ?_|refine zW rfl rfl (by first | rfl | assumption) rfl ?_|refine zO rfl rfl (by rfl) (by rfl) (by first | decide | simp [Value.oneCell']) rfl ?_)))
        exact endM_cc rfl (yV (n := 3) rfl (by rfl)) (gives_1 rfl rfl) (.pointer none,.pointer none,.pointer none,xH q) trivial rfl ((Ent.sel (K := [Ft q Y.1 Y.2])).trans ((tH h1).trans (three_none h1)))
    · intro rr v
      dsimp only
      refine wE (fun _ _ hs => hs.tail.tail.tail.out fact_out) (fun hz => ?_)
      refine zV ?_
      exact endM_cc rfl (yV (n := 3) rfl (by rfl)) (gives_1 rfl rfl) (.pointer none,.pointer none,.pointer none,v) trivial rfl ((Ent.sel (K := [Er v Z.1 Z.2])).trans (three_none hz))
  · subst hv
    repeat (first|(first|refine zB ?_|refine zE ?_|refine zG ?_|refine zL rfl ?_|refine zV ?_)|(first|((first|refine zA rfl ?_);first|refine JOq (JQ_neIf1 rfl) rfl ?_|refine zD rfl rfl ?_|refine zU rfl (by rfl) rfl ?_|refine zW rfl rfl (by first | rfl | assumption) rfl ?_|refine zO rfl rfl (by rfl) (by rfl) (by first | decide | simp [Value.oneCell']) rfl ?_)))
    rw [x0 h0]
    refine ⟨_,uO rfl (yV rfl rfl) (gives_1 rfl rfl),_,?_,(.pointer none,.pointer none,.pointer none,xH q),trivial,rfl,rfl⟩
    exact (Ent.sel (K := [Ft q (begA headL bs 0).1 (begA headL bs 0).2])).trans ((tH h0).trans (three_none h0))
end Go.Proofs.YtickblndgihoeaaGreatDoor
