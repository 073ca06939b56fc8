/- Layer 11: the document's cursor: templates, starts. -/
import Derived.Test.YtickblndgihoeaaGreatDoorM43
import Derived.Test.YtickblndgihoeaaGreatDoorM40
set_option linter.unusedSimpArgs false
namespace Go.Proofs.YtickblndgihoeaaGreatDoor
open Go Go.Sp
theorem bind_assoc' {α β γ : Type} (m : RO α) (f : α → Rdr β) (g : β → Rdr γ) : (m.bind f).bind g = m.bind fun x b p => (f x b p).bind g := by cases m <;> rfl
section
variable {bs b b1 b2 b3 : List UInt8} {pl p k1 q1 p1 k2 q2 p2 k3 q3 p3 : Int} {fl n N : Nat}
theorem flag_bind {β : Type} (f : Bool → Rdr β) : (flagR b p).bind f = (uM 1 b p).bind fun n b p => f (decide (n = 1)) b p := by
  unfold flagR
  rw [bind_assoc']
  rfl
theorem prm_1 {e : Int × Int} (h2 : OneS (uM 1 b p) 1 k2 q2 b2 p2) (h3 : OneS (rdS wO k2 q2 b2 p2) e k3 q3 b3 p3) : OneS (prmR b p) ⟨true,e⟩ k3 q3 b3 p3 := by
  unfold prmR
  rw [flag_bind,h2.bind]
  simp only [decide_true,if_true]
  rw [rdS_bind,h3.bind]
  exact h3.good.pure _
theorem prm_0 (h2 : OneS (uM 1 b p) fl k2 q2 b2 p2) (hf : fl ≠ 1) : OneS (prmR b p) ⟨false,(0,0)⟩ k2 q2 b2 p2 := by
  unfold prmR
  rw [flag_bind,h2.bind,decide_eq_false hf]
  exact h2.good.pure _
theorem ar_1 (h2 : OneS (uM 1 b p) 1 k2 q2 b2 p2) (h3 : OneS (rdS (uM 31) k2 q2 b2 p2) n k3 q3 b3 p3) : OneS (arR b p) ⟨true,0,(n : Int)⟩ k3 q3 b3 p3 := by
  unfold arR
  rw [flag_bind,h2.bind]
  simp only [decide_true,if_true]
  rw [rdS_bind,h3.bind]
  exact h3.good.pure _
theorem ar_0 {w : Int} (h2 : OneS (uM 1 b p) fl k2 q2 b2 p2) (hf : fl ≠ 1) (h3 : OneS (rdS wholeR k2 q2 b2 p2) w k3 q3 b3 p3) : OneS (arR b p) ⟨false,w,0⟩ k3 q3 b3 p3 := by
  unfold arR
  rw [flag_bind,h2.bind,decide_eq_false hf]
  simp only [Bool.false_eq_true,if_false]
  rw [rdS_bind,h3.bind]
  exact h3.good.pure _
theorem any_many {α : Type} {rd : Rdr α} {most : Int} (h : OneS (rdS (uM most) k1 q1 b1 p1) n k2 q2 b2 p2) : rdS (vR 0 most rd) k1 q1 b1 p1 = rdS (vB rd n) k2 q2 b2 p2 := by
  rw [← h.bind,← rdS_bind]
  exact congrArg (fun r => rdS r k1 q1 b1 p1) (funext fun b => funext fun p => sev_any _ _ _)
theorem most_many {α : Type} {rd : Rdr α} {most : Int} (h : OneS (rdS (someR most) k1 q1 b1 p1) n k2 q2 b2 p2) : rdS (vR 1 most rd) k1 q1 b1 p1 = rdS (vB rd n) k2 q2 b2 p2 := by
  rw [← h.bind,← rdS_bind]
  exact congrArg (fun r => rdS r k1 q1 b1 p1) (funext fun b => funext fun p => sev_most _ _ _)
theorem tem_two {xs : List Prm} {ps at2 : List Int} {ys : List YI} (h1 : OneS (vR 0 8 prmR bs pl) (xs,ps) k2 q2 b2 p2) (h2 : OneS (rdS (vR 1 128 insnR) k2 q2 b2 p2) (ys,at2) k3 q3 b3 p3) : OneS (temR bs pl) ⟨xs,no0,ys,no0,at2,no0⟩ k3 q3 b3 p3 := by
  unfold temR
  rw [h1.bind,rdS_bind,h2.bind]
  exact h2.good.pure _
theorem sta_two {xs : List Ar} {ps : List Int} (h1 : OneS (uM 15 bs pl) n k2 q2 b2 p2) (h2 : OneS (rdS (vR 0 8 arR) k2 q2 b2 p2) (xs,ps) k3 q3 b3 p3) : OneS (staR bs pl) ⟨(n : Int),xs,no0⟩ k3 q3 b3 p3 := by
  unfold staR
  rw [h1.bind,rdS_bind,h2.bind]
  exact h2.good.pure _
theorem read_bnd (h0 : 0 ≤ pl) : (uE bs pl).x.l.length ≤ 1000 ∧ -9223372036854775808 ≤ (uE bs pl).x.a ∧ (uE bs pl).x.a ≤ 9223372036854775807 := by
  by_cases hc : (uE bs pl).c = 0
  · obtain ⟨n,b1,b2,b3,b4,b5⟩ := read_inv hc
    have hlen := read_len bs pl
    exact ⟨by omega,b4⟩
  · rw [read_err hc]
    exact ⟨by simp [vZ,zeroI],by simp [vZ,zeroI]⟩
theorem insn_one (hpl : 0 ≤ pl ∧ pl + bs.length ≤ 1000000) : OneS (insnR bs pl) ((uE bs pl).x,none,0) (uE bs pl).c (uE bs pl).a (uE bs pl).bs (uE bs pl).pl := by
  by_cases hc : (uE bs pl).c = 0
  · have h1 := insnR_ok hpl.1 hc
    have h2 := insnR_more h1
    exact .inl ⟨hc,read_a hc,by omega,h1⟩
  · exact .inr ⟨hc,insnR_bad hpl.1 hc⟩
end
attribute [local irreducible] callFunc Go.method J JL JO JR JR1 JRl Ct JG JM JM1 JW JW1 JQ JQ0 JS CtD xB by8 DrB smA uA uM wO someR wholeR vB vR temR staR prmR arR insnR uE uT yB ints
set_option maxHeartbeats 8000000 in
theorem ctem_u (c e : Nat) (bs : List UInt8) (pl : Int) (hpl : 0 ≤ pl ∧ pl + bs.length ≤ 1000000) : Ct Tryz.prog 78 #[ptr c] [vU c e 0 0,DrB e bs pl] (CurU (temR bs pl) c e erT (fun t => .agg (wA t).toArray) wS) := by
  have c1 := cnum_u c e 0 0 8 bs pl (by decide) (.ok hpl)
  refine yE (vs := [_]) Tryz.func78 rfl Tryz.ntmps78 (by simp) ?_
  repeat (first|(first|refine zB ?_|refine zE ?_|refine zG ?_)|(first|((first|refine zA rfl ?_);first|refine zD rfl rfl ?_|refine zS rfl (fun r => ?_))))
  rename_i n2
  revert r
  intro n3
  refine zA rfl (yK rfl c1 rfl (fun z hz => ?_))
  obtain ⟨n,k,q,b,p⟩ := z
  obtain ⟨h1,hn⟩ := hz
  dsimp only [id] at h1 hn ⊢
  have hm := any_many (rd := prmR) h1
  have hg := h1.good
  rw [rdS_0] at hm
  clear c1 h1
  repeat (first|(first|refine zB ?_|refine zE ?_|refine zG ?_)|(first|((first|refine zA rfl ?_);first|refine zC rfl rfl ?_)))
  refine uI (α := { z : List Prm × Value × List Int × Int × Int × List UInt8 × Int // z.2.1.oneCell' = true ∧ z.1.length ≤ 8 ∧ OneS (vR 0 8 prmR bs pl) (z.1.map id,z.2.2.1) z.2.2.2.1 z.2.2.2.2.1 z.2.2.2.2.2.1 z.2.2.2.2.2.2 }) (fun z => [(0,ptr c),(2,ptr n2),(3,ptr n3)]) (fun z => [yC 62 3 z.1.2.1 z.1.1.length (z.1.1.flatMap tI),pt n3 (.cells [z.1.2.1,.slice none 0 0,.slice none 0 0].toArray 50 (0,0)),pt n2 (.cells [.slice none 0 0,.slice none 0 0,.slice none 0 0].toArray 50 (0,0)),vU c e z.1.2.2.2.1 z.1.2.2.2.2.1,DrB e z.1.2.2.2.2.2.1 z.1.2.2.2.2.2.2]) ?_ ?_
  · repeat (first|(first|refine zK ?_)|(first|((first|refine zA rfl ?_);first|refine zD rfl rfl ?_)))
    refine xQ (own0 (e := 62) (sz := 3)) ?_
    refine xU (β := { z : Nat × List Prm × Value × List Int × Int × Int × List UInt8 × Int // z.2.2.1.oneCell' = true ∧ LoopS (vR 0 8 prmR bs pl) prmR id n z.1 z.2.1 z.2.2.2.1 z.2.2.2.2.1 z.2.2.2.2.2.1 z.2.2.2.2.2.2.1 z.2.2.2.2.2.2.2 }) (fun z => [(0,ptr c),(2,ptr n2),(3,ptr n3),(4,.int .i64 (n : Int)),(5,.int .i64 (z.1.1 : Int))]) (fun _ => []) (fun z => [yC 62 3 z.1.2.2.1 z.1.2.1.length (z.1.2.1.flatMap tI),pt n3 (.cells [z.1.2.2.1,.slice none 0 0,.slice none 0 0].toArray 50 (0,0)),pt n2 (.cells [.slice none 0 0,.slice none 0 0,.slice none 0 0].toArray 50 (0,0)),vU c e z.1.2.2.2.2.1 z.1.2.2.2.2.2.1,DrB e z.1.2.2.2.2.2.2.1 z.1.2.2.2.2.2.2.2]) (fun z => n - z.1.1) ⟨(0,[],.slice none 0 0,[],k,q,b,p),rfl,.start hg hm⟩ ?_ rfl ?_ ?_
    · (repeat (first|exact zM _|refine zI rfl ?_))
    · simp only [List.flatMap_nil,List.length_nil]
      exact Ent.sel
    rintro ⟨⟨i,xs,v,ps,k,q,b,p⟩,hv,hl⟩
    dsimp only at hv hl ⊢
    obtain ⟨h1,h2,h3⟩ := hl.1
    by_cases hi : i < n
    · by_cases hk : k = 0
      · subst hk
        obtain ⟨rfl,hb⟩ := hl.good rfl
        have cb := cbad_f c e 0
        have c2 := cnum_u c e 0 0 1 b p (by decide) (.ok hb)
        rw [rdS_0] at c2
        repeat (first|(first|refine zB ?_|refine zE ?_|refine zG ?_|refine zK ?_|refine zP ?_|refine zL rfl ?_)|(first|((first|refine zA rfl ?_|refine zZ rfl rfl ?_);first|refine JOq (yH rfl rfl (by omega)) rfl ?_|refine zD rfl rfl ?_|refine yA rfl rfl rfl ?_|refine xD rfl rfl ?_|refine zN rfl (cb) rfl ?_)))
        refine zA rfl (yK rfl c2 rfl (fun z hz => ?_))
        obtain ⟨fl,k2,q2,b2,p2⟩ := z
        obtain ⟨g2,g2'⟩ := hz
        dsimp only [id] at g2 g2' ⊢
        by_cases hf1 : fl = 1
        · subst hf1
          have c3 := ctyp_u c e k2 q2 b2 p2 g2.good
          repeat (first|(first|refine zB ?_|refine zE ?_|refine zG ?_|refine zL rfl ?_)|(first|((first|refine zA rfl ?_);first|refine JOq (yT rfl rfl (by omega)) rfl ?_|refine yG (cs := [.bool true,.int .i64 0,.int .i64 0]) rfl rfl rfl ?_|refine zO rfl rfl (by rfl) (by rfl) (by simp [Value.oneCell']) rfl ?_|refine zD rfl rfl ?_|refine zF rfl rfl ?_|refine zH rfl rfl ?_|refine zS rfl (fun r => ?_))))
          refine zA rfl (yK rfl c3 rfl (fun z hz => ?_))
          obtain ⟨x,k3,q3,b3,p3⟩ := z
          obtain ⟨g3,g3'⟩ := hz
          dsimp only [id] at g3 g3' ⊢
          repeat (first|(first|refine zB ?_|refine zE ?_)|(first|((first|refine zA rfl ?_);first|refine JO_storeM (pre := [.bool true]) (old := [.int .i64 0,.int .i64 0]) (post := []) (vs := yI x) rfl rfl rfl rfl rfl rfl (by simp [Value.oneCell']) rfl ?_|refine xI (cs := tI (⟨true,x⟩ : Prm)) rfl (by simp) rfl ?_|refine yP (n := 3) (vs := [.agg (tI (⟨true,x⟩ : Prm)).toArray]) (cs := tI (⟨true,x⟩ : Prm)) rfl rfl (hc := cat_agg1 3 (tI (⟨true,x⟩ : Prm)) rfl) rfl (by decide) rfl (fun r9 => ?_)|refine wM (sz := 3) (n := xs.length) (m := 1) (news := tI (⟨true,x⟩ : Prm)) rfl rfl wL rfl (by decide) rfl (by simp [Value.oneCell']) (Nat.le_trans (Nat.mul_le_mul_right _ (show xs.length + 1 ≤ 1001 by omega)) (by decide)) (by decide) rfl (fun v' hv' => ?_)|refine yZ (b := 1) rfl rfl (by omega) rfl ?_|refine zD rfl rfl ?_|refine zC rfl rfl ?_|refine zF rfl rfl ?_|refine zH rfl rfl ?_|refine zW rfl rfl (by first | rfl | assumption) rfl ?_)))
          refine ⟨⟨(i + 1,xs ++ [(⟨true,x⟩ : Prm)],v',ps ++ [p],k3,q3,b3,p3),hv',hl.step hi (prm_1 g2 g3)⟩,by simp only;omega,by (repeat (first|exact zM _|refine zI rfl ?_)),rfl,?_⟩
          simp only [List.flatMap_append,List.flatMap_singleton,List.length_append,List.length_singleton]
          exact Ent.sel
        · repeat (first|(first|refine zB ?_|refine zE ?_|refine zG ?_|refine zP ?_|refine zJ rfl ?_)|(first|((first|refine zA rfl ?_);first|refine JOq (yL rfl rfl (by omega)) rfl ?_|refine yG (cs := tI (⟨false,(0,0)⟩ : Prm)) rfl rfl rfl ?_|refine zO rfl rfl (by rfl) (by rfl) (by simp [Value.oneCell']) rfl ?_|refine xI (cs := tI (⟨false,(0,0)⟩ : Prm)) rfl (by simp) rfl ?_|refine yP (n := 3) (vs := [.agg (tI (⟨false,(0,0)⟩ : Prm)).toArray]) (cs := tI (⟨false,(0,0)⟩ : Prm)) rfl rfl (hc := cat_agg1 3 (tI (⟨false,(0,0)⟩ : Prm)) rfl) rfl (by decide) rfl (fun r9 => ?_)|refine wM (sz := 3) (n := xs.length) (m := 1) (news := tI (⟨false,(0,0)⟩ : Prm)) rfl rfl wL rfl (by decide) rfl (by simp [Value.oneCell']) (Nat.le_trans (Nat.mul_le_mul_right _ (show xs.length + 1 ≤ 1001 by omega)) (by decide)) (by decide) rfl (fun v' hv' => ?_)|refine yZ (b := 1) rfl rfl (by omega) rfl ?_|refine zD rfl rfl ?_|refine zC rfl rfl ?_|refine zF rfl rfl ?_|refine zH rfl rfl ?_|refine zS rfl (fun r => ?_)|refine zW rfl rfl (by first | rfl | assumption) rfl ?_)))
          refine ⟨⟨(i + 1,xs ++ [(⟨false,(0,0)⟩ : Prm)],v',ps ++ [p],k2,q2,b2,p2),hv',hl.step hi (prm_0 g2 hf1)⟩,by simp only;omega,by (repeat (first|exact zM _|refine zI rfl ?_)),rfl,?_⟩
          simp only [List.flatMap_append,List.flatMap_singleton,List.length_append,List.length_singleton]
          exact Ent.sel
      · have cb := cbad_t c e k q hk
        repeat (first|(first|refine zB ?_|refine zE ?_|refine zG ?_|refine zJ rfl ?_|refine xA ?_)|(first|((first|refine zA rfl ?_|refine zZ rfl rfl ?_);first|refine JOq (yH rfl rfl (by omega)) rfl ?_|refine zD rfl rfl ?_|refine yA rfl rfl rfl ?_|refine xD rfl rfl ?_|refine zN rfl (cb) rfl ?_)))
        exact ⟨⟨(xs,v,ps,k,q,b,p),hv,by simp only;omega,hl.done (fun h => absurd h hk)⟩,by (repeat (first|exact zM _|refine zI rfl ?_)),rfl,Ent.sel⟩
    · repeat (first|(first|refine zB ?_|refine zE ?_|refine zG ?_|refine zJ rfl ?_|refine xA ?_)|(first|((first|refine zA rfl ?_);first|refine JOq (yS rfl rfl (by omega)) rfl ?_|refine zD rfl rfl ?_|refine yJ rfl rfl rfl ?_)|refine yU rfl rfl rfl ?_))
      exact ⟨⟨(xs,v,ps,k,q,b,p),hv,by simp only;omega,hl.done (fun _ => by omega)⟩,by (repeat (first|exact zM _|refine zI rfl ?_)),rfl,Ent.sel⟩
  rintro ⟨⟨prms,v1,ps1,k1,q1,b1,p1⟩,hv1,hl1,ho1⟩
  dsimp only [thn] at hv1 hl1 ho1 ⊢
  rw [List.map_id] at ho1
  clear hm hg hn
  have c4 := csome_u c e k1 q1 128 b1 p1 (by decide) ho1.good
  repeat (first|(first|refine zB ?_|refine zG ?_)|(first|((first|refine zA rfl ?_);first|refine zD rfl rfl ?_)))
  refine zA rfl (yK rfl c4 rfl (fun z hz => ?_))
  obtain ⟨n,k,q,b,p⟩ := z
  obtain ⟨h1,hn⟩ := hz
  dsimp only [id] at h1 hn ⊢
  have hm := most_many (rd := insnR) h1
  have hg := h1.good
  clear c4 h1
  generalize hM : rdS (vR 1 128 insnR) k1 q1 b1 p1 = M at hm
  repeat (first|(first|refine zB ?_|refine zE ?_|refine zG ?_)|(first|((first|refine zA rfl ?_);first|refine zC rfl rfl ?_)))
  refine uI (α := { z : List YI × Value × List Int × Value × Int × Int × List UInt8 × Int // (z.2.1.oneCell' = true ∧ z.2.2.2.1.oneCell' = true) ∧ OneS M (z.1.map erY,z.2.2.1) z.2.2.2.2.1 z.2.2.2.2.2.1 z.2.2.2.2.2.2.1 z.2.2.2.2.2.2.2 }) (fun z => [(0,ptr c),(2,ptr n2),(3,ptr n3)]) (fun z => [yC 52 6 z.1.2.1 z.1.1.length (z.1.1.flatMap vC),yB uT z.1.1,yC 3 1 z.1.2.2.2.1 z.1.2.2.1.length (ints z.1.2.2.1),yC 62 3 v1 prms.length (prms.flatMap tI),pt n3 (.cells [v1,z.1.2.1,z.1.2.2.2.1].toArray 50 (0,0)),pt n2 (.cells [.slice none 0 0,.slice none 0 0,.slice none 0 0].toArray 50 (0,0)),vU c e z.1.2.2.2.2.1 z.1.2.2.2.2.2.1,DrB e z.1.2.2.2.2.2.2.1 z.1.2.2.2.2.2.2.2]) ?_ ?_
  · repeat (first|(first|refine zK ?_)|(first|((first|refine zA rfl ?_);first|refine zD rfl rfl ?_)))
    refine xQ (own0 (e := 52) (sz := 6)) ?_
    refine xQ (uZ (e := 3)) ?_
    refine xQ (all_nil (R := uT)) ?_
    refine xU (β := { z : Nat × List YI × Value × List Int × Value × Int × Int × List UInt8 × Int // (z.2.2.1.oneCell' = true ∧ z.2.2.2.2.1.oneCell' = true) ∧ LoopS M insnR erY n z.1 z.2.1 z.2.2.2.1 z.2.2.2.2.2.1 z.2.2.2.2.2.2.1 z.2.2.2.2.2.2.2.1 z.2.2.2.2.2.2.2.2 }) (fun z => [(0,ptr c),(2,ptr n2),(3,ptr n3),(4,.int .i64 (n : Int)),(7,.int .i64 (z.1.1 : Int))]) (fun _ => []) (fun z => [yC 52 6 z.1.2.2.1 z.1.2.1.length (z.1.2.1.flatMap vC),yB uT z.1.2.1,yC 3 1 z.1.2.2.2.2.1 z.1.2.2.2.1.length (ints z.1.2.2.2.1),yC 62 3 v1 prms.length (prms.flatMap tI),pt n3 (.cells [v1,z.1.2.2.1,z.1.2.2.2.2.1].toArray 50 (0,0)),pt n2 (.cells [.slice none 0 0,.slice none 0 0,.slice none 0 0].toArray 50 (0,0)),vU c e z.1.2.2.2.2.2.1 z.1.2.2.2.2.2.2.1,DrB e z.1.2.2.2.2.2.2.2.1 z.1.2.2.2.2.2.2.2.2]) (fun z => n - z.1.1) ⟨(0,[],.slice none 0 0,[],.slice none 0 0,k,q,b,p),⟨rfl,rfl⟩,.start hg hm⟩ ?_ rfl ?_ ?_
    · (repeat (first|exact zM _|refine zI rfl ?_))
    · simp only [List.flatMap_nil,List.length_nil]
      exact Ent.sel
    rintro ⟨⟨i,xs,v,ps,w,k,q,b,p⟩,⟨hv,hw⟩,hl⟩
    dsimp only at hv hw hl ⊢
    obtain ⟨h1,h2,h3⟩ := hl.1
    by_cases hi : i < n
    · by_cases hk : k = 0
      · subst hk
        obtain ⟨rfl,hb⟩ := hl.good rfl
        have cb := cbad_f c e 0
        have dp := dplace_B e b p
        have dr := dread_c e b p hb
        have g1 := read_bnd (bs := b) hb.1
        have g2 := insn_one hb
        generalize uE b p = R at *
        repeat (first|(first|refine zB ?_|refine zE ?_|refine zG ?_|refine zK ?_|refine zP ?_|refine zL rfl ?_)|(first|((first|refine zA rfl ?_|refine zZ rfl rfl ?_);first|refine JOq (yH rfl rfl (by omega)) rfl ?_|refine JOq (yQ rfl) rfl ?_|refine zD rfl rfl ?_|refine zC rfl rfl ?_|refine zF rfl rfl ?_|refine zH rfl rfl ?_|refine yA rfl rfl rfl ?_|refine xD rfl rfl ?_|refine zN rfl (cb) rfl ?_|refine zN rfl (dp) rfl ?_)))
        refine zA rfl (yK rfl dr rfl (fun y hy => ?_))
        obtain ⟨yp,yc⟩ := y
        dsimp only at hy ⊢
        repeat (first|(first|refine zB ?_|refine zE ?_|refine zG ?_)|(first|((first|refine zA rfl ?_);first|refine zO rfl rfl (by rfl) (by rfl) (ins_one rfl) rfl ?_|refine zO rfl rfl (by rfl) (by rfl) (by simp [Value.oneCell']) rfl ?_|refine JOq (yQ rfl) rfl ?_|refine xI (cs := [.int .i64 R.c,.int .i64 R.a]) rfl (by simp) rfl ?_|refine zD rfl rfl ?_|refine zF rfl rfl ?_|refine zT rfl rfl rfl ?_|refine zS rfl (fun r => ?_))))
        refine zA rfl (JO_storeM (pre := [ptr e]) (old := [.int .i64 0,.int .i64 0]) (post := []) (vs := [.int .i64 R.c,.int .i64 R.a]) rfl rfl rfl rfl rfl rfl (by simp [Value.oneCell']) rfl ?_)
        simp only [List.cons_append,List.nil_append]
        repeat (first|(first|refine zB ?_|refine zE ?_|refine zG ?_)|(first|((first|refine zA rfl ?_);first|refine yP (n := 6) (vs := [.agg (vC ((R.x,yp,yc) : YI)).toArray]) (cs := vC ((R.x,yp,yc) : YI)) rfl rfl (hc := cat_agg1 6 (vC ((R.x,yp,yc) : YI)) rfl) rfl (by decide) rfl (fun r9 => ?_)|refine wM (sz := 6) (n := xs.length) (m := 1) (news := vC ((R.x,yp,yc) : YI)) rfl rfl wL rfl (by decide) rfl (ins_one rfl) (Nat.le_trans (Nat.mul_le_mul_right _ (show xs.length + 1 ≤ 1001 by omega)) (by decide)) (by decide) rfl (fun v' hv' => ?_)|refine wM (sz := 1) (n := ps.length) (m := 1) (news := [.int .i64 p]) rfl rfl wL rfl (by decide) rfl (by simp [Value.oneCell']) (Nat.le_trans (Nat.mul_le_mul_right _ (show ps.length + 1 ≤ 1001 by omega)) (by decide)) (by decide) rfl (fun w2 hw2 => ?_)|refine yZ (b := 1) rfl rfl (by omega) rfl ?_|refine zD rfl rfl ?_|refine zC rfl rfl ?_|refine zF rfl rfl ?_|refine zH rfl rfl ?_|refine zU rfl (by rfl) rfl ?_|refine yP rfl rfl rfl (by decide) rfl (fun r => ?_)|refine zW rfl rfl (by first | rfl | assumption) rfl ?_)))
        refine ⟨⟨(i + 1,xs ++ [((R.x,yp,yc) : YI)],v',ps ++ [p],w2,R.c,R.a,R.bs,R.pl),⟨hv',hw2⟩,hl.step hi g2⟩,by simp only;omega,by (repeat (first|exact zM _|refine zI rfl ?_)),rfl,?_⟩
        simp only [List.flatMap_append,List.flatMap_singleton,List.length_append,List.length_singleton,ints_snoc]
        exact (Ent.sel (K := [Vw 1 (.slice yp R.x.l.length yc) R.x.l.length (ints R.x.l),yB uT xs,yC 52 6 v' (xs.length + 1) (xs.flatMap vC ++ vC ((R.x,yp,yc) : YI)),yC 3 1 w2 (ps.length + 1) (ints ps ++ [.int .i64 p]),yC 62 3 v1 prms.length (prms.flatMap tI),pt n3 (.cells [v1,v',w2].toArray 50 (0,0)),pt n2 (.cells [.slice none 0 0,.slice none 0 0,.slice none 0 0].toArray 50 (0,0)),vU c e R.c R.a,DrB e R.bs R.pl])).trans ((ent_turn (B := uT ((R.x,yp,yc) : YI)) (fun k hk => by unfold uT;exact ⟨⟨hy,g1⟩,hk⟩)).trans ((Ent.sel (K := [yB uT xs,uT ((R.x,yp,yc) : YI),yC 52 6 v' (xs.length + 1) (xs.flatMap vC ++ vC ((R.x,yp,yc) : YI)),yC 3 1 w2 (ps.length + 1) (ints ps ++ [.int .i64 p]),yC 62 3 v1 prms.length (prms.flatMap tI),pt n3 (.cells [v1,v',w2].toArray 50 (0,0)),pt n2 (.cells [.slice none 0 0,.slice none 0 0,.slice none 0 0].toArray 50 (0,0)),vU c e R.c R.a,DrB e R.bs R.pl])).trans ((all_snoc up_insR).trans Ent.sel)))
      · have cb := cbad_t c e k q hk
        repeat (first|(first|refine zB ?_|refine zE ?_|refine zG ?_|refine zJ rfl ?_|refine xA ?_)|(first|((first|refine zA rfl ?_|refine zZ rfl rfl ?_);first|refine JOq (yH rfl rfl (by omega)) rfl ?_|refine zD rfl rfl ?_|refine yA rfl rfl rfl ?_|refine xD rfl rfl ?_|refine zN rfl (cb) rfl ?_)))
        exact ⟨⟨(xs,v,ps,w,k,q,b,p),⟨hv,hw⟩,hl.done (fun h => absurd h hk)⟩,by (repeat (first|exact zM _|refine zI rfl ?_)),rfl,Ent.sel⟩
    · repeat (first|(first|refine zB ?_|refine zE ?_|refine zG ?_|refine zJ rfl ?_|refine xA ?_)|(first|((first|refine zA rfl ?_);first|refine JOq (yS rfl rfl (by omega)) rfl ?_|refine zD rfl rfl ?_|refine yJ rfl rfl rfl ?_)|refine yU rfl rfl rfl ?_))
      exact ⟨⟨(xs,v,ps,w,k,q,b,p),⟨hv,hw⟩,hl.done (fun _ => by omega)⟩,by (repeat (first|exact zM _|refine zI rfl ?_)),rfl,Ent.sel⟩
  rintro ⟨⟨ys,v2,at2,v3,k,q,b,p⟩,⟨hv2,hv3⟩,ho⟩
  dsimp only [thn] at hv2 hv3 ho ⊢
  rw [← hM] at ho
  refine wQ (yC 62 3 v1 prms.length (prms.flatMap tI)) ?_
  refine uU (fun pv1 cv1 hv hc => ?_)
  subst hv
  refine wQ (yC 52 6 v2 ys.length (ys.flatMap vC)) ?_
  refine uU (fun pv2 cv2 hv hc => ?_)
  subst hv
  refine wQ (yC 3 1 v3 at2.length (ints at2)) ?_
  refine uU (fun pv3 cv3 hv hc => ?_)
  subst hv
  repeat (first|(first|refine zB ?_|refine zE ?_|refine zG ?_|refine zV ?_)|(first|((first|refine zA rfl ?_);first|refine zO rfl rfl (by rfl) (by rfl) (by simp [Value.oneCell']) rfl ?_|refine zU rfl (by rfl) rfl ?_)))
  refine ⟨rfl,_,wT (cs := wA ⟨prms,(pv1,cv1),ys,(pv2,cv2),at2,(pv3,cv3)⟩) rfl rfl rfl,[wS ⟨prms,(pv1,cv1),ys,(pv2,cv2),at2,(pv3,cv3)⟩,vU c e k q,DrB e b p],?_,(⟨prms,(pv1,cv1),ys,(pv2,cv2),at2,(pv3,cv3)⟩,k,q,b,p),tem_two ho1 ho,rfl,rfl⟩
  exact (Ent.sel (K := [Vw 3 (slc (pv1,cv1) prms.length) prms.length (prms.flatMap tI),Vw 6 (slc (pv2,cv2) ys.length) ys.length (ys.flatMap vC),yB uT ys,Vw 1 (slc (pv3,cv3) at2.length) at2.length (ints at2),vU c e k q,DrB e b p])).trans ((ent_conj (A := wS ⟨prms,(pv1,cv1),ys,(pv2,cv2),at2,(pv3,cv3)⟩) (M := [Vw 3 (slc (pv1,cv1) prms.length) prms.length (prms.flatMap tI),Vw 6 (slc (pv2,cv2) ys.length) ys.length (ys.flatMap vC),yB uT ys,Vw 1 (slc (pv3,cv3) at2.length) at2.length (ints at2)]) (fun B hB => by
    simp only [List.mem_cons,List.not_mem_nil,or_false] at hB
    rcases hB with rfl | rfl | rfl | rfl
    · exact up_vw _ _ _ _
    · exact up_vw _ _ _ _
    · exact up_all up_insR _
    · exact up_vw _ _ _ _) (fun k hk => ⟨hk _ (by simp),hk _ (by simp),hk _ (by simp),hk _ (by simp)⟩)).trans Ent.sel)
set_option maxHeartbeats 8000000 in
theorem csta_u (c e : Nat) (bs : List UInt8) (pl : Int) (hpl : 0 ≤ pl ∧ pl + bs.length ≤ 1000000) : Ct Tryz.prog 80 #[ptr c] [vU c e 0 0,DrB e bs pl] (CurU (staR bs pl) c e erS (fun s => .agg (vE s).toArray) StaR) := by
  have c1 := cnum_u c e 0 0 15 bs pl (by decide) (.ok hpl)
  refine yE (vs := [_]) Tryz.func80 rfl Tryz.ntmps80 (by simp) ?_
  repeat (first|(first|refine zB ?_|refine zE ?_|refine zG ?_)|(first|((first|refine zA rfl ?_);first|refine zD rfl rfl ?_|refine zS rfl (fun r => ?_))))
  revert r
  intro n2
  refine zA rfl (yK rfl c1 rfl (fun z hz => ?_))
  obtain ⟨tm,k1,q1,b1,p1⟩ := z
  obtain ⟨h0,ht⟩ := hz
  dsimp only [id] at h0 ht ⊢
  rw [rdS_0] at h0
  have c2 := cnum_u c e k1 q1 8 b1 p1 (by decide) h0.good
  repeat (first|(first|refine zB ?_|refine zE ?_|refine zG ?_)|(first|((first|refine zA rfl ?_);first|refine yG (cs := [.int .i64 (tm : Int),.slice none 0 0]) rfl rfl rfl ?_|refine zO rfl rfl (by rfl) (by rfl) (by simp [Value.oneCell']) rfl ?_|refine zD rfl rfl ?_|refine zS rfl (fun r => ?_))))
  revert r
  intro n3
  refine zA rfl (yK rfl c2 rfl (fun z hz => ?_))
  obtain ⟨n,k,q,b,p⟩ := z
  obtain ⟨h1,hn⟩ := hz
  dsimp only [id] at h1 hn ⊢
  have hm := any_many (rd := arR) h1
  have hg := h1.good
  clear c2 h1 c1
  generalize hM : rdS (vR 0 8 arR) k1 q1 b1 p1 = M at hm
  repeat (first|(first|refine zB ?_|refine zE ?_|refine zG ?_)|(first|((first|refine zA rfl ?_);first|refine zC rfl rfl ?_)))
  refine uI (α := { z : List Ar × Value × List Int × Int × Int × List UInt8 × Int // z.2.1.oneCell' = true ∧ OneS M (z.1.map id,z.2.2.1) z.2.2.2.1 z.2.2.2.2.1 z.2.2.2.2.2.1 z.2.2.2.2.2.2 }) (fun z => [(0,ptr c),(2,ptr n2),(3,ptr n3)]) (fun z => [yC 64 3 z.1.2.1 z.1.1.length (z.1.1.flatMap arC),pt n3 (.cells [.int .i64 (tm : Int),z.1.2.1].toArray 67 (0,0)),pt n2 (.cells [.int .i64 0,.slice none 0 0].toArray 67 (0,0)),vU c e z.1.2.2.2.1 z.1.2.2.2.2.1,DrB e z.1.2.2.2.2.2.1 z.1.2.2.2.2.2.2]) ?_ ?_
  · repeat (first|(first|refine zK ?_)|(first|((first|refine zA rfl ?_);first|refine zD rfl rfl ?_)))
    refine xQ (own0 (e := 64) (sz := 3)) ?_
    refine xU (β := { z : Nat × List Ar × Value × List Int × Int × Int × List UInt8 × Int // z.2.2.1.oneCell' = true ∧ LoopS M arR id n z.1 z.2.1 z.2.2.2.1 z.2.2.2.2.1 z.2.2.2.2.2.1 z.2.2.2.2.2.2.1 z.2.2.2.2.2.2.2 }) (fun z => [(0,ptr c),(2,ptr n2),(3,ptr n3),(4,.int .i64 (n : Int)),(5,.int .i64 (z.1.1 : Int))]) (fun _ => []) (fun z => [yC 64 3 z.1.2.2.1 z.1.2.1.length (z.1.2.1.flatMap arC),pt n3 (.cells [.int .i64 (tm : Int),z.1.2.2.1].toArray 67 (0,0)),pt n2 (.cells [.int .i64 0,.slice none 0 0].toArray 67 (0,0)),vU c e z.1.2.2.2.2.1 z.1.2.2.2.2.2.1,DrB e z.1.2.2.2.2.2.2.1 z.1.2.2.2.2.2.2.2]) (fun z => n - z.1.1) ⟨(0,[],.slice none 0 0,[],k,q,b,p),rfl,.start hg hm⟩ ?_ rfl ?_ ?_
    · (repeat (first|exact zM _|refine zI rfl ?_))
    · simp only [List.flatMap_nil,List.length_nil]
      exact Ent.sel
    rintro ⟨⟨i,xs,v,ps,k,q,b,p⟩,hv,hl⟩
    dsimp only at hv hl ⊢
    obtain ⟨h1,h2,h3⟩ := hl.1
    by_cases hi : i < n
    · by_cases hk : k = 0
      · subst hk
        obtain ⟨rfl,hb⟩ := hl.good rfl
        have cb := cbad_f c e 0
        have c2 := cnum_u c e 0 0 1 b p (by decide) (.ok hb)
        rw [rdS_0] at c2
        repeat (first|(first|refine zB ?_|refine zE ?_|refine zG ?_|refine zK ?_|refine zP ?_|refine zL rfl ?_)|(first|((first|refine zA rfl ?_|refine zZ rfl rfl ?_);first|refine JOq (yH rfl rfl (by omega)) rfl ?_|refine zD rfl rfl ?_|refine yA rfl rfl rfl ?_|refine xD rfl rfl ?_|refine zN rfl (cb) rfl ?_)))
        refine zA rfl (yK rfl c2 rfl (fun z hz => ?_))
        obtain ⟨fl,k2,q2,b2,p2⟩ := z
        obtain ⟨g2,g2'⟩ := hz
        dsimp only [id] at g2 g2' ⊢
        by_cases hf1 : fl = 1
        · subst hf1
          have c3 := cnum_u c e k2 q2 31 b2 p2 (by decide) g2.good
          repeat (first|(first|refine zB ?_|refine zE ?_|refine zG ?_|refine zL rfl ?_)|(first|((first|refine zA rfl ?_);first|refine JOq (yT rfl rfl (by omega)) rfl ?_|refine yG (cs := [.bool true,.int .i64 0,.int .i64 0]) rfl rfl rfl ?_|refine zO rfl rfl (by rfl) (by rfl) (by simp [Value.oneCell']) rfl ?_|refine zD rfl rfl ?_|refine zF rfl rfl ?_|refine zH rfl rfl ?_|refine zS rfl (fun r => ?_))))
          refine zA rfl (yK rfl c3 rfl (fun z hz => ?_))
          obtain ⟨x,k3,q3,b3,p3⟩ := z
          obtain ⟨g3,g3'⟩ := hz
          dsimp only [id] at g3 g3' ⊢
          repeat (first|(first|refine zB ?_|refine zE ?_)|(first|((first|refine zA rfl ?_);first|refine xI (cs := arC (⟨true,0,(x : Int)⟩ : Ar)) rfl (by simp) rfl ?_|refine yP (n := 3) (vs := [.agg (arC (⟨true,0,(x : Int)⟩ : Ar)).toArray]) (cs := arC (⟨true,0,(x : Int)⟩ : Ar)) rfl rfl (hc := cat_agg1 3 (arC (⟨true,0,(x : Int)⟩ : Ar)) rfl) rfl (by decide) rfl (fun r9 => ?_)|refine wM (sz := 3) (n := xs.length) (m := 1) (news := arC (⟨true,0,(x : Int)⟩ : Ar)) rfl rfl wL rfl (by decide) rfl (by simp [Value.oneCell']) (Nat.le_trans (Nat.mul_le_mul_right _ (show xs.length + 1 ≤ 1001 by omega)) (by decide)) (by decide) rfl (fun v' hv' => ?_)|refine yZ (b := 1) rfl rfl (by omega) rfl ?_|refine zD rfl rfl ?_|refine zC rfl rfl ?_|refine zF rfl rfl ?_|refine zH rfl rfl ?_|refine zW rfl rfl (by first | rfl | assumption) rfl ?_)))
          refine ⟨⟨(i + 1,xs ++ [(⟨true,0,(x : Int)⟩ : Ar)],v',ps ++ [p],k3,q3,b3,p3),hv',hl.step hi (ar_1 g2 g3)⟩,by simp only;omega,by (repeat (first|exact zM _|refine zI rfl ?_)),rfl,?_⟩
          simp only [List.flatMap_append,List.flatMap_singleton,List.length_append,List.length_singleton]
          exact Ent.sel
        · have c3 := cwhole_u c e k2 q2 b2 p2 g2.good
          repeat (first|(first|refine zB ?_|refine zE ?_|refine zG ?_|refine zJ rfl ?_)|(first|((first|refine zA rfl ?_);first|refine JOq (yL rfl rfl (by omega)) rfl ?_|refine yG (cs := [.bool false,.int .i64 0,.int .i64 0]) rfl rfl rfl ?_|refine zO rfl rfl (by rfl) (by rfl) (by simp [Value.oneCell']) rfl ?_|refine zD rfl rfl ?_|refine zF rfl rfl ?_|refine zH rfl rfl ?_|refine zS rfl (fun r => ?_))))
          refine zA rfl (yK rfl c3 rfl (fun z hz => ?_))
          obtain ⟨x,k3,q3,b3,p3⟩ := z
          obtain ⟨g3,g3'⟩ := hz
          dsimp only [id] at g3 g3' ⊢
          repeat (first|(first|refine zB ?_|refine zE ?_)|(first|((first|refine zA rfl ?_);first|refine xI (cs := arC (⟨false,x,0⟩ : Ar)) rfl (by simp) rfl ?_|refine yP (n := 3) (vs := [.agg (arC (⟨false,x,0⟩ : Ar)).toArray]) (cs := arC (⟨false,x,0⟩ : Ar)) rfl rfl (hc := cat_agg1 3 (arC (⟨false,x,0⟩ : Ar)) rfl) rfl (by decide) rfl (fun r9 => ?_)|refine wM (sz := 3) (n := xs.length) (m := 1) (news := arC (⟨false,x,0⟩ : Ar)) rfl rfl wL rfl (by decide) rfl (by simp [Value.oneCell']) (Nat.le_trans (Nat.mul_le_mul_right _ (show xs.length + 1 ≤ 1001 by omega)) (by decide)) (by decide) rfl (fun v' hv' => ?_)|refine yZ (b := 1) rfl rfl (by omega) rfl ?_|refine zD rfl rfl ?_|refine zC rfl rfl ?_|refine zF rfl rfl ?_|refine zH rfl rfl ?_|refine zW rfl rfl (by first | rfl | assumption) rfl ?_)))
          refine ⟨⟨(i + 1,xs ++ [(⟨false,x,0⟩ : Ar)],v',ps ++ [p],k3,q3,b3,p3),hv',hl.step hi (ar_0 g2 hf1 g3)⟩,by simp only;omega,by (repeat (first|exact zM _|refine zI rfl ?_)),rfl,?_⟩
          simp only [List.flatMap_append,List.flatMap_singleton,List.length_append,List.length_singleton]
          exact Ent.sel
      · have cb := cbad_t c e k q hk
        repeat (first|(first|refine zB ?_|refine zE ?_|refine zG ?_|refine zJ rfl ?_|refine xA ?_)|(first|((first|refine zA rfl ?_|refine zZ rfl rfl ?_);first|refine JOq (yH rfl rfl (by omega)) rfl ?_|refine zD rfl rfl ?_|refine yA rfl rfl rfl ?_|refine xD rfl rfl ?_|refine zN rfl (cb) rfl ?_)))
        exact ⟨⟨(xs,v,ps,k,q,b,p),hv,hl.done (fun h => absurd h hk)⟩,by (repeat (first|exact zM _|refine zI rfl ?_)),rfl,Ent.sel⟩
    · repeat (first|(first|refine zB ?_|refine zE ?_|refine zG ?_|refine zJ rfl ?_|refine xA ?_)|(first|((first|refine zA rfl ?_);first|refine JOq (yS rfl rfl (by omega)) rfl ?_|refine zD rfl rfl ?_|refine yJ rfl rfl rfl ?_)|refine yU rfl rfl rfl ?_))
      exact ⟨⟨(xs,v,ps,k,q,b,p),hv,hl.done (fun _ => by omega)⟩,by (repeat (first|exact zM _|refine zI rfl ?_)),rfl,Ent.sel⟩
  rintro ⟨⟨xs,v,ps,k,q,b,p⟩,hv,ho⟩
  dsimp only [thn] at hv ho ⊢
  rw [← hM,List.map_id] at ho
  refine wQ (yC 64 3 v xs.length (xs.flatMap arC)) ?_
  refine uU (fun pv cv hv hc => ?_)
  subst hv
  repeat (first|(first|refine zB ?_|refine zE ?_|refine zG ?_|refine zV ?_)|(first|((first|refine zA rfl ?_);first|refine zO rfl rfl (by rfl) (by rfl) (by simp [Value.oneCell']) rfl ?_|refine zU rfl (by rfl) rfl ?_)))
  exact ⟨rfl,_,wT (cs := vE ⟨(tm : Int),xs,(pv,cv)⟩) rfl rfl rfl,[StaR ⟨(tm : Int),xs,(pv,cv)⟩,vU c e k q,DrB e b p],Ent.sel,(⟨(tm : Int),xs,(pv,cv)⟩,k,q,b,p),sta_two h0 ho,rfl,rfl⟩
end Go.Proofs.YtickblndgihoeaaGreatDoor
