/- Layer 9: an instruction's operands are read. -/
import Derived.Test.YtickblndgihoeaaGreatDoorM10
import Derived.Test.YtickblndgihoeaaGreatDoorM7
import Derived.Test.YtickblndgihoeaaGreatDoorM5
set_option linter.unusedSimpArgs false
namespace Go.Proofs.YtickblndgihoeaaGreatDoor
open Go Go.Sp
def zeroI : Ins := ⟨0,0,0,0,0,[]⟩
structure RdR where
  x : Ins
  c : Int
  a : Int
  bs : List UInt8
  pl : Int
abbrev RK := List UInt8 → Int → RdR
def vZ (c a : Int) (bs : List UInt8) (pl : Int) : RdR := ⟨zeroI,c,a,bs,pl⟩
def vY (most : Int) (k : Nat → RK) : RK := fun bs pl => if (smA bs pl most).2.1 ≠ 0 then vZ (smA bs pl most).2.1 (smA bs pl most).2.2 (uA bs pl).rest (uA bs pl).pl else k (smA bs pl most).1 (uA bs pl).rest (uA bs pl).pl
def optK (m : Int) (k : Int → RK) : RK := if m = -1 then k 0 else vY m (fun n => k (n : Int))
def listK : Nat → Int → List Nat → (List Nat → RK) → RK
  | 0,_,acc,k => k acc
  | n + 1,m,acc,k => vY m (fun z => listK n m (acc ++ [z]) k)
def vI (l : List Nat) : List Int := List.map (fun n : Nat => (n : Int)) l
def finK (op : Nat) (b c d : Int) (l : List Nat) : RK := fun bs pl => ⟨⟨op,0,b,c,d,vI l⟩,0,0,bs,pl⟩
def manyK (r : Row) (k : List Nat → RK) : RK := if (r.least : Int) < (r.most : Int) then vY (r.most : Int) (fun m => listK m r.l [] k) else listK r.least r.l [] k
def xS (r : Row) (op : Nat) : RK := fun bs pl =>
  if r.whole = true then (if (uA bs pl).c ≠ 0 then vZ (uA bs pl).c (uA bs pl).a (uA bs pl).rest (uA bs pl).pl else ⟨⟨op,uB (uA bs pl).n,0,0,0,[]⟩,0,0,(uA bs pl).rest,(uA bs pl).pl⟩)
  else optK r.b (fun b => optK r.c (fun c => optK r.d (fun d => manyK r (finK op b c d)))) bs pl
theorem optK_none {m : Int} {k : Int → RK} (h : m = -1) : optK m k = k 0 := by unfold optK;rw [if_pos h]
theorem optK_some {m : Int} {k : Int → RK} (h : ¬ m = -1) : optK m k = vY m (fun n => k (n : Int)) := by unfold optK;rw [if_neg h]
theorem sm_le {bs : List UInt8} {pl most : Int} : (smA bs pl most).2.1 = 0 → ((smA bs pl most).1 : Int) ≤ most := by
  unfold smA
  split
  · intro h;rename_i h1;exact absurd h h1
  · split
    · intro h;simp at h
    · intro _;rename_i h1 h2;simp only;omega
theorem manyK_lt {r : Row} {k : List Nat → RK} (h : (r.least : Int) < (r.most : Int)) : manyK r k = vY (r.most : Int) (fun m => listK m r.l [] k) := by unfold manyK;rw [if_pos h]
theorem manyK_ge {r : Row} {k : List Nat → RK} (h : ¬ (r.least : Int) < (r.most : Int)) : manyK r k = listK r.least r.l [] k := by unfold manyK;rw [if_neg h]
theorem listK_0 {m : Int} {acc : List Nat} {k : List Nat → RK} : listK 0 m acc k = k acc := rfl
theorem listK_succ {n : Nat} {m : Int} {acc : List Nat} {k : List Nat → RK} : listK (n + 1) m acc k = vY m (fun z => listK n m (acc ++ [z]) k) := rfl
structure RS where
  b : Int
  c : Int
  d : Int
  bs : List UInt8
  pl : Int
theorem endM_cE {α : Type} {φ : α → Prop} {f : α → Value} {L0 : α → List HP} {P : Program} {N : Nat} {E : Env} {L : List HP} {r : Nat} {M : List HP} [h : Tk (pt r (.deferred (some []))) L M] {fn : Func} {a t : Nat} [T1 P t] {b : Nat} {v : Value} {cs : List Value} {bt : TypeId} {fz : Nat × Nat} (hr : fn.results = #[.cell a t]) (hv : Env.get E a = some (.pointer (some ⟨b,0,none⟩))) [hb : HB M b (.cells cs.toArray bt fz)] (hg : cs[0]? = some v) (x : α) (hφ : φ x) (hx : v = f x) (he : Ent M (L0 x)) :
    bodyQM P N fn (RetE φ f L0) .ret E [collected r] L := ⟨r,M,rfl,h.h,_,res_cell1 hr hv hg,_,he,x,hφ,by rw [hx],rfl⟩
theorem own0 {e sz : Nat} {L : List HP} : Ent L (yC e sz (.slice none 0 0) 0 [] :: L) := Ent.cons fun w M h => h.own_nil
theorem uZ {e : Nat} {L : List HP} : Ent L (yC e 1 (.slice none 0 0) 0 (ints []) :: L) := own0
theorem ints_more (acc : List Nat) (z : Nat) : ints (vI (acc ++ [z])) = ints (vI acc) ++ [.int .i64 (z : Int)] := by simp [ints,vI]
abbrev OpQ (R : RdR) (q n3 : Nat) : Ending → List HP → Prop := RetE (fun y : Value × Ins × Value => R.c = 0 → y.2.1 = R.x) (fun y => y.1) (fun y => [Er y.1 R.c R.a,pt n3 (.cells (insC y.2.1 y.2.2).toArray 52 (0,0)),yC 3 1 y.2.2 y.2.1.l.length (ints y.2.1.l),RdB q R.bs R.pl])
attribute [local irreducible] callFunc Go.method J JL JO JR JR1 JRl Ct JG JM JM1 JW JW1 JQ JQ0 JS CtD xB zQ ints RdB Er stage uA smA listK manyK optK Fact by8
set_option maxRecDepth 8000 in
set_option maxHeartbeats 8000000 in
theorem operands_w (r : Row) (hw : r.whole = true) (q n3 op : Nat) (bs : List UInt8) (pl : Int) (hpl : 0 ≤ pl ∧ pl + bs.length ≤ 1000000) :
    Ct Tryz.prog 168 #[.agg (tK r).toArray,ptr q,ptr n3] [RdB q bs pl,pt n3 (.cells #[.int .i64 ((op : Nat) : Int),.int .i64 0,.int .i64 0,.int .i64 0,.int .i64 0,(.slice none 0 0)] 52 (0,0))] (OpQ (xS r op bs pl) q n3) := by
  have hs := s_E q bs pl hpl
  unfold xS
  rw [if_pos hw]
  rcases r with ⟨wh,rb,rc,rd,rl,least,most,un⟩
  dsimp only at hw
  subst hw
  generalize uA bs pl = A at *
  refine fn_retM (vs := [_,_,_]) Tryz.func168 rfl Tryz.ntmps168 (by simp) ?_
  unfold tK OpQ
  dsimp only
  refine xQ (L' := [yC 3 1 (.slice none 0 0) 0 (ints []),RdB q bs pl,pt n3 (.cells #[.int .i64 ((op : Nat) : Int),.int .i64 0,.int .i64 0,.int .i64 0,.int .i64 0,(.slice none 0 0)] 52 (0,0))]) uZ ?_
  repeat (first|(first|refine zB ?_|refine zE ?_|refine zG ?_|refine zL rfl ?_)|(first|((first|refine zA rfl ?_);first|refine yK rfl hs rfl (fun v _ => ?_)|refine JOq (yQ rfl) rfl ?_|refine zD rfl rfl ?_|refine zF rfl rfl ?_|refine zH rfl rfl ?_|refine zT rfl rfl rfl ?_|refine yN rfl rfl (fun r => ?_)|refine JO_box1 rfl rfl rfl (fun r => ?_)|refine tL (by rfl) rfl (fun r => ?_)|refine zW rfl rfl (by first | rfl | assumption) rfl ?_)))
  refine JL_front (Er v A.c A.a) ?_
  refine JL_er (fun h0 h00 hv => ?_) (fun qf h0 hv => ?_)
  · subst hv
    rw [if_neg (by simpa using h0)]
    repeat (first|(first|refine zB ?_|refine zE ?_|refine zG ?_|refine zV ?_)|(first|((first|refine zA rfl ?_);first|refine zH rfl rfl ?_|refine zW rfl rfl (by first | rfl | assumption) rfl ?_)))
    exact ⟨_,res_cell1 rfl rfl rfl,_,(Ent.sel (K := [pt n3 (.cells #[.int .i64 ((op : Nat) : Int),.int .i64 (uB A.n),.int .i64 0,.int .i64 0,.int .i64 0,(.slice none 0 0)] 52 (0,0)),yC 3 1 (.slice none 0 0) 0 (ints []),RdB q A.rest A.pl])).trans er_none,(.nilIface,⟨op,uB A.n,0,0,0,[]⟩,(.slice none 0 0)),fun _ => rfl,rfl,rfl⟩
  · subst hv
    rw [if_pos h0]
    repeat (first|(first|refine zB ?_|refine zE ?_|refine zG ?_|refine zV ?_)|(first|((first|refine zA rfl ?_);first|refine zH rfl rfl ?_|refine zW rfl rfl (by first | rfl | assumption) rfl ?_)))
    exact ⟨_,res_cell1 rfl rfl rfl,_,(Ent.sel (K := [Ft qf A.c A.a,pt n3 (.cells #[.int .i64 ((op : Nat) : Int),.int .i64 (uB A.n),.int .i64 0,.int .i64 0,.int .i64 0,(.slice none 0 0)] 52 (0,0)),yC 3 1 (.slice none 0 0) 0 (ints []),RdB q A.rest A.pl])).trans (tH h0),(xH qf,⟨op,uB A.n,0,0,0,[]⟩,(.slice none 0 0)),fun h => absurd h h0,rfl,rfl⟩
set_option maxRecDepth 8000 in
set_option maxHeartbeats 16000000 in
theorem operands_s (r : Row) (hw : r.whole = false) (hb1 : r.b ≤ 1000) (hb2 : r.c ≤ 1000) (hb3 : r.d ≤ 1000) (hb4 : r.l ≤ 1000) (hb5 : r.most ≤ 8) (hb6 : r.least ≤ 8) (q n3 op : Nat) (bs : List UInt8) (pl : Int) (hpl : 0 ≤ pl ∧ pl + bs.length ≤ 1000000) :
    Ct Tryz.prog 168 #[.agg (tK r).toArray,ptr q,ptr n3] [RdB q bs pl,pt n3 (.cells #[.int .i64 ((op : Nat) : Int),.int .i64 0,.int .i64 0,.int .i64 0,.int .i64 0,(.slice none 0 0)] 52 (0,0))] (OpQ (xS r op bs pl) q n3) := by
  unfold xS
  rw [if_neg (by simp [hw])]
  rcases r with ⟨wh,rb,rc,rd,rl,least,most,un⟩
  dsimp only at hw hb1 hb2 hb3 hb4 hb5 hb6 ⊢
  subst hw
  generalize hR : optK rb (fun b => optK rc (fun c => optK rd (fun d => manyK ⟨false,rb,rc,rd,rl,least,most,un⟩ (finK op b c d)))) bs pl = R
  refine fn_retM (vs := [_,_,_]) Tryz.func168 rfl Tryz.ntmps168 (by simp) ?_
  have hsm := small_c ⟨false,rb,rc,rd,rl,least,most,un⟩ n3
  have hcnt := counts_c ⟨false,rb,rc,rd,rl,least,most,un⟩
  unfold tK at hsm hcnt ⊢
  unfold OpQ
  dsimp only at hsm hcnt ⊢
  refine xQ (L' := [yC 3 1 (.slice none 0 0) 0 (ints []),RdB q bs pl,pt n3 (.cells #[.int .i64 ((op : Nat) : Int),.int .i64 0,.int .i64 0,.int .i64 0,.int .i64 0,(.slice none 0 0)] 52 (0,0))]) uZ ?_
  repeat (first|(first|refine zB ?_|refine zE ?_|refine zG ?_|refine zP ?_|refine zJ rfl ?_)|(first|((first|refine zA rfl ?_);first|refine zD rfl rfl ?_|refine zF rfl rfl ?_|refine zH rfl rfl ?_|refine zU rfl (by rfl) rfl ?_|refine yN rfl rfl (fun r => ?_)|refine JO_box1 rfl rfl rfl (fun r => ?_)|refine tL (by rfl) rfl (fun r => ?_))))
  rename_i n5 n4
  revert r
  intro n6
  repeat (first|(first|refine zE ?_|refine zK ?_)|(first|((first|refine zA rfl ?_);first|refine yK rfl hsm rfl (fun cx _ => ?_))))
  obtain ⟨c1,c2⟩ := cx
  dsimp only
  refine J_range (σ := RS) (τ := Nat × Int × Int × Int) (fun i s => stage i [Fact ((R = optK rb (fun b => optK rc (fun c => optK rd (fun d => manyK ⟨false,rb,rc,rd,rl,least,most,un⟩ (finK op b c d)))) s.bs s.pl) ∧ 0 ≤ s.pl ∧ s.pl + s.bs.length ≤ 1000000),pt n3 (.cells #[.int .i64 ((op : Nat) : Int),.int .i64 0,.int .i64 0,.int .i64 0,.int .i64 0,(.slice none 0 0)] 52 (0,0)),RdB q s.bs s.pl,pt n5 (.cells #[.bool false,.int .i64 rb,.int .i64 rc,.int .i64 rd,.int .i64 rl,.int .i64 (least : Int),.int .i64 (most : Int),.bool un] 252 (0,0)),pt n4 (.cells #[ptr q] 70 (0,0)),pt n6 (.cells #[.nilIface] 43 (0,0)),yC 3 1 (.slice none 0 0) 0 (ints [])] [Fact ((R = optK rc (fun c => optK rd (fun d => manyK ⟨false,rb,rc,rd,rl,least,most,un⟩ (finK op s.b c d))) s.bs s.pl) ∧ 0 ≤ s.pl ∧ s.pl + s.bs.length ≤ 1000000),pt n3 (.cells #[.int .i64 ((op : Nat) : Int),.int .i64 0,.int .i64 s.b,.int .i64 0,.int .i64 0,(.slice none 0 0)] 52 (0,0)),RdB q s.bs s.pl,pt n5 (.cells #[.bool false,.int .i64 rb,.int .i64 rc,.int .i64 rd,.int .i64 rl,.int .i64 (least : Int),.int .i64 (most : Int),.bool un] 252 (0,0)),pt n4 (.cells #[ptr q] 70 (0,0)),pt n6 (.cells #[.nilIface] 43 (0,0)),yC 3 1 (.slice none 0 0) 0 (ints [])] [Fact ((R = optK rd (fun d => manyK ⟨false,rb,rc,rd,rl,least,most,un⟩ (finK op s.b s.c d)) s.bs s.pl) ∧ 0 ≤ s.pl ∧ s.pl + s.bs.length ≤ 1000000),pt n3 (.cells #[.int .i64 ((op : Nat) : Int),.int .i64 0,.int .i64 s.b,.int .i64 s.c,.int .i64 0,(.slice none 0 0)] 52 (0,0)),RdB q s.bs s.pl,pt n5 (.cells #[.bool false,.int .i64 rb,.int .i64 rc,.int .i64 rd,.int .i64 rl,.int .i64 (least : Int),.int .i64 (most : Int),.bool un] 252 (0,0)),pt n4 (.cells #[ptr q] 70 (0,0)),pt n6 (.cells #[.nilIface] 43 (0,0)),yC 3 1 (.slice none 0 0) 0 (ints [])] [Fact ((R = manyK ⟨false,rb,rc,rd,rl,least,most,un⟩ (finK op s.b s.c s.d) s.bs s.pl) ∧ 0 ≤ s.pl ∧ s.pl + s.bs.length ≤ 1000000),pt n3 (.cells #[.int .i64 ((op : Nat) : Int),.int .i64 0,.int .i64 s.b,.int .i64 s.c,.int .i64 s.d,(.slice none 0 0)] 52 (0,0)),RdB q s.bs s.pl,pt n5 (.cells #[.bool false,.int .i64 rb,.int .i64 rc,.int .i64 rd,.int .i64 rl,.int .i64 (least : Int),.int .i64 (most : Int),.bool un] 252 (0,0)),pt n4 (.cells #[ptr q] 70 (0,0)),pt n6 (.cells #[.nilIface] 43 (0,0)),yC 3 1 (.slice none 0 0) 0 (ints [])]) (fun _ => .ret) (fun t => [Fact (R.c ≠ 0),pt n6 (.cells #[xH t.1] 43 (0,0)),Ft t.1 R.c R.a,pt n3 (.cells #[.int .i64 ((op : Nat) : Int),.int .i64 0,.int .i64 t.2.1,.int .i64 t.2.2.1,.int .i64 t.2.2.2,(.slice none 0 0)] 52 (0,0)),yC 3 1 (.slice none 0 0) 0 (ints []),RdB q R.bs R.pl]) rfl (small1_c c1 c2 n3 ⟨false,rb,rc,rd,rl,least,most,un⟩) ?_ ?_ ⟨0,0,0,bs,pl⟩ ?_ ?_ ?_ ?_
  · intro q hq
    simp only [smallV,List.mem_cons,List.not_mem_nil,or_false] at hq
    rcases hq with rfl | rfl | rfl <;> rfl
  · decide
  · rw [stage_0]
    dsimp only
    exact (wD (And.intro hR.symm hpl)).trans (Ent.sel (K := [Fact ((R = optK rb (fun b => optK rc (fun c => optK rd (fun d => manyK ⟨false,rb,rc,rd,rl,least,most,un⟩ (finK op b c d)))) bs pl) ∧ 0 ≤ pl ∧ pl + bs.length ≤ 1000000),pt n3 (.cells #[.int .i64 ((op : Nat) : Int),.int .i64 0,.int .i64 0,.int .i64 0,.int .i64 0,(.slice none 0 0)] 52 (0,0)),RdB q bs pl,pt n5 (.cells #[.bool false,.int .i64 rb,.int .i64 rc,.int .i64 rd,.int .i64 rl,.int .i64 (least : Int),.int .i64 (most : Int),.bool un] 252 (0,0)),pt n4 (.cells #[ptr q] 70 (0,0)),pt n6 (.cells #[.nilIface] 43 (0,0)),yC 3 1 (.slice none 0 0) 0 (ints []),pt c1 (.cells #[ptr n3] 259 (0,0)),RowP c2 ⟨false,rb,rc,rd,rl,least,most,un⟩]))
  · intro lo rec i g s hq
    match i,hq with
      | 0,hq =>
        obtain rfl : [pf n3 2,Value.int .i64 rb] = g := Option.some.inj hq
        dsimp only
        rw [stage_0]
        refine J_say fact_out (fun hf => ?_)
        obtain ⟨hf,hpl⟩ := hf
        by_cases hz : rb = -1
        · rw [optK_none hz] at hf
          repeat (first|(first|refine zB ?_|refine zE ?_|refine zG ?_|refine zK ?_|refine zL rfl ?_|refine xA ?_)|(first|((first|refine zA rfl ?_);first|refine JOq (yT rfl rfl (by omega)) rfl ?_|refine zD rfl rfl ?_|refine zC rfl rfl ?_)))
          refine ⟨⟨0,0,0,s.bs,s.pl⟩,?_⟩
          show Ent _ (_ :: stage 1 _ _ _ _)
          rw [stage_1]
          dsimp only at hf ⊢
          exact (wD (And.intro hf hpl)).trans .sel
        · have hs := sm_E q s.bs s.pl rb hpl (by omega)
          have hu := uA_ok s.bs s.pl
          have hle := sm_le (bs := s.bs) (pl := s.pl) (most := rb)
          rw [optK_some hz] at hf
          unfold vY at hf
          generalize smA s.bs s.pl rb = S at *
          generalize uA s.bs s.pl = A at *
          repeat (first|(first|refine zB ?_|refine zE ?_|refine zG ?_|refine zK ?_|refine zP ?_|refine zJ rfl ?_)|(first|((first|refine zA rfl ?_);first|refine JOq (yL rfl rfl (by omega)) rfl ?_|refine JOq (yQ rfl) rfl ?_|refine yK rfl hs rfl (fun v _ => ?_)|refine zD rfl rfl ?_|refine zC rfl rfl ?_|refine zH rfl rfl ?_|refine zT rfl rfl rfl ?_|refine zW rfl rfl (by first | rfl | assumption) rfl ?_)))
          refine JL_front (Er v S.2.1 S.2.2) ?_
          refine JL_er (fun h0 h00 hv => ?_) (fun qf h0 hv => ?_)
          · subst hv
            rw [if_neg (by simpa using h0)] at hf
            repeat (first|(first|refine zB ?_|refine zE ?_|refine zG ?_|refine zP ?_|refine zJ rfl ?_)|(first|((first|refine zA rfl ?_);first|refine JOq (uJ rfl) rfl ?_|refine zH rfl rfl ?_|refine zW rfl rfl (by first | rfl | assumption) rfl ?_)))
            refine ⟨⟨((S.1 : Nat) : Int),0,0,A.rest,A.pl⟩,?_⟩
            show Ent _ (_ :: stage 1 _ _ _ _)
            rw [stage_1]
            dsimp only at hf ⊢
            have hpl2 : 0 ≤ A.pl ∧ A.pl + (A.rest.length : Int) ≤ 1000000 := by omega
            exact (wD (And.intro hf hpl2)).trans .sel
          · subst hv
            rw [if_pos h0] at hf
            repeat (first|(first|refine zB ?_|refine zE ?_|refine zG ?_|refine zL rfl ?_|refine zV ?_)|(first|((first|refine zA rfl ?_);first|refine JOq (JQ_neIf1 rfl) rfl ?_|refine zH rfl rfl ?_|refine zW rfl rfl (by first | rfl | assumption) rfl ?_)))
            refine ⟨(qf,((S.1 : Nat) : Int),0,0),rfl,?_⟩
            subst hf
            dsimp only [vZ]
            exact (wD (p := S.2.1 ≠ 0) h0).trans .sel
      | 1,hq =>
        obtain rfl : [pf n3 3,Value.int .i64 rc] = g := Option.some.inj hq
        dsimp only
        rw [stage_1]
        refine J_say fact_out (fun hf => ?_)
        obtain ⟨hf,hpl⟩ := hf
        by_cases hz : rc = -1
        · rw [optK_none hz] at hf
          repeat (first|(first|refine zB ?_|refine zE ?_|refine zG ?_|refine zK ?_|refine zL rfl ?_|refine xA ?_)|(first|((first|refine zA rfl ?_);first|refine JOq (yT rfl rfl (by omega)) rfl ?_|refine zD rfl rfl ?_|refine zC rfl rfl ?_)))
          refine ⟨⟨s.b,0,0,s.bs,s.pl⟩,?_⟩
          show Ent _ (_ :: stage 2 _ _ _ _)
          rw [stage_2]
          dsimp only at hf ⊢
          exact (wD (And.intro hf hpl)).trans .sel
        · have hs := sm_E q s.bs s.pl rc hpl (by omega)
          have hu := uA_ok s.bs s.pl
          have hle := sm_le (bs := s.bs) (pl := s.pl) (most := rc)
          rw [optK_some hz] at hf
          unfold vY at hf
          generalize smA s.bs s.pl rc = S at *
          generalize uA s.bs s.pl = A at *
          repeat (first|(first|refine zB ?_|refine zE ?_|refine zG ?_|refine zK ?_|refine zP ?_|refine zJ rfl ?_)|(first|((first|refine zA rfl ?_);first|refine JOq (yL rfl rfl (by omega)) rfl ?_|refine JOq (yQ rfl) rfl ?_|refine yK rfl hs rfl (fun v _ => ?_)|refine zD rfl rfl ?_|refine zC rfl rfl ?_|refine zH rfl rfl ?_|refine zT rfl rfl rfl ?_|refine zW rfl rfl (by first | rfl | assumption) rfl ?_)))
          refine JL_front (Er v S.2.1 S.2.2) ?_
          refine JL_er (fun h0 h00 hv => ?_) (fun qf h0 hv => ?_)
          · subst hv
            rw [if_neg (by simpa using h0)] at hf
            repeat (first|(first|refine zB ?_|refine zE ?_|refine zG ?_|refine zP ?_|refine zJ rfl ?_)|(first|((first|refine zA rfl ?_);first|refine JOq (uJ rfl) rfl ?_|refine zH rfl rfl ?_|refine zW rfl rfl (by first | rfl | assumption) rfl ?_)))
            refine ⟨⟨s.b,((S.1 : Nat) : Int),0,A.rest,A.pl⟩,?_⟩
            show Ent _ (_ :: stage 2 _ _ _ _)
            rw [stage_2]
            dsimp only at hf ⊢
            have hpl2 : 0 ≤ A.pl ∧ A.pl + (A.rest.length : Int) ≤ 1000000 := by omega
            exact (wD (And.intro hf hpl2)).trans .sel
          · subst hv
            rw [if_pos h0] at hf
            repeat (first|(first|refine zB ?_|refine zE ?_|refine zG ?_|refine zL rfl ?_|refine zV ?_)|(first|((first|refine zA rfl ?_);first|refine JOq (JQ_neIf1 rfl) rfl ?_|refine zH rfl rfl ?_|refine zW rfl rfl (by first | rfl | assumption) rfl ?_)))
            refine ⟨(qf,s.b,((S.1 : Nat) : Int),0),rfl,?_⟩
            subst hf
            dsimp only [vZ]
            exact (wD (p := S.2.1 ≠ 0) h0).trans .sel
      | 2,hq =>
        obtain rfl : [pf n3 4,Value.int .i64 rd] = g := Option.some.inj hq
        dsimp only
        rw [stage_2]
        refine J_say fact_out (fun hf => ?_)
        obtain ⟨hf,hpl⟩ := hf
        by_cases hz : rd = -1
        · rw [optK_none hz] at hf
          repeat (first|(first|refine zB ?_|refine zE ?_|refine zG ?_|refine zK ?_|refine zL rfl ?_|refine xA ?_)|(first|((first|refine zA rfl ?_);first|refine JOq (yT rfl rfl (by omega)) rfl ?_|refine zD rfl rfl ?_|refine zC rfl rfl ?_)))
          refine ⟨⟨s.b,s.c,0,s.bs,s.pl⟩,?_⟩
          show Ent _ (_ :: stage 3 _ _ _ _)
          rw [stage_3]
          dsimp only at hf ⊢
          exact (wD (And.intro hf hpl)).trans .sel
        · have hs := sm_E q s.bs s.pl rd hpl (by omega)
          have hu := uA_ok s.bs s.pl
          have hle := sm_le (bs := s.bs) (pl := s.pl) (most := rd)
          rw [optK_some hz] at hf
          unfold vY at hf
          generalize smA s.bs s.pl rd = S at *
          generalize uA s.bs s.pl = A at *
          repeat (first|(first|refine zB ?_|refine zE ?_|refine zG ?_|refine zK ?_|refine zP ?_|refine zJ rfl ?_)|(first|((first|refine zA rfl ?_);first|refine JOq (yL rfl rfl (by omega)) rfl ?_|refine JOq (yQ rfl) rfl ?_|refine yK rfl hs rfl (fun v _ => ?_)|refine zD rfl rfl ?_|refine zC rfl rfl ?_|refine zH rfl rfl ?_|refine zT rfl rfl rfl ?_|refine zW rfl rfl (by first | rfl | assumption) rfl ?_)))
          refine JL_front (Er v S.2.1 S.2.2) ?_
          refine JL_er (fun h0 h00 hv => ?_) (fun qf h0 hv => ?_)
          · subst hv
            rw [if_neg (by simpa using h0)] at hf
            repeat (first|(first|refine zB ?_|refine zE ?_|refine zG ?_|refine zP ?_|refine zJ rfl ?_)|(first|((first|refine zA rfl ?_);first|refine JOq (uJ rfl) rfl ?_|refine zH rfl rfl ?_|refine zW rfl rfl (by first | rfl | assumption) rfl ?_)))
            refine ⟨⟨s.b,s.c,((S.1 : Nat) : Int),A.rest,A.pl⟩,?_⟩
            show Ent _ (_ :: stage 3 _ _ _ _)
            rw [stage_3]
            dsimp only at hf ⊢
            have hpl2 : 0 ≤ A.pl ∧ A.pl + (A.rest.length : Int) ≤ 1000000 := by omega
            exact (wD (And.intro hf hpl2)).trans .sel
          · subst hv
            rw [if_pos h0] at hf
            repeat (first|(first|refine zB ?_|refine zE ?_|refine zG ?_|refine zL rfl ?_|refine zV ?_)|(first|((first|refine zA rfl ?_);first|refine JOq (JQ_neIf1 rfl) rfl ?_|refine zH rfl rfl ?_|refine zW rfl rfl (by first | rfl | assumption) rfl ?_)))
            refine ⟨(qf,s.b,s.c,((S.1 : Nat) : Int)),rfl,?_⟩
            subst hf
            dsimp only [vZ]
            exact (wD (p := S.2.1 ≠ 0) h0).trans .sel
      | k + 3,hq => simp [smallV] at hq
  · intro rr s
    rw [show (smallV n3 ⟨false,rb,rc,rd,rl,least,most,un⟩).length = 3 from rfl,stage_3]
    refine wE (fun _ _ hs => hs.tail.tail.out fact_out) (fun hf => ?_)
    obtain ⟨hf,hpl⟩ := hf
    obtain ⟨b,c,d,bs,pl⟩ := s
    dsimp only at hf hpl ⊢
    repeat (first|(first|refine zB ?_|refine zE ?_|refine zG ?_)|(first|((first|refine zA rfl ?_);first|refine zC rfl rfl ?_|refine zF rfl rfl ?_|refine zH rfl rfl ?_|refine zU rfl (by rfl) rfl ?_|refine zR rfl (hcnt) rfl ?_)))
    refine uI (α := { y : Nat × List UInt8 × Int // R = listK y.1 rl [] (finK op b c d) y.2.1 y.2.2 ∧ (0 ≤ y.2.2 ∧ y.2.2 + (y.2.1.length : Int) ≤ 1000000) ∧ y.1 ≤ 8 }) (fun y => [(2,ptr n3),(3,ptr n5),(4,ptr n4),(6,ptr n6),(9,.int .i64 (y.1.1 : Int))]) (fun y => [pt rr (.deferred (some [])),pt n3 (.cells #[.int .i64 ((op : Nat) : Int),.int .i64 0,.int .i64 b,.int .i64 c,.int .i64 d,(.slice none 0 0)] 52 (0,0)),RdB q y.1.2.1 y.1.2.2,pt n5 (.cells #[.bool false,.int .i64 rb,.int .i64 rc,.int .i64 rd,.int .i64 rl,.int .i64 (least : Int),.int .i64 (most : Int),.bool un] 252 (0,0)),pt n4 (.cells #[ptr q] 70 (0,0)),pt n6 (.cells #[.nilIface] 43 (0,0)),yC 3 1 (.slice none 0 0) 0 (ints [])]) ?_ ?_
    · refine J_condP rfl (fun hlm => ?_) (fun hlm => ?_)
      · have hs := sm_E q bs pl (most : Int) hpl (by omega)
        have hu := uA_ok bs pl
        have hle := sm_le (bs := bs) (pl := pl) (most := (most : Int))
        rw [manyK_lt hlm] at hf
        unfold vY at hf
        dsimp only at hf
        generalize smA bs pl (most : Int) = S at *
        generalize uA bs pl = A at *
        repeat (first|(first|refine zB ?_|refine zG ?_)|(first|((first|refine zA rfl ?_);first|refine yK rfl hs rfl (fun v _ => ?_)|refine zD rfl rfl ?_|refine zC rfl rfl ?_|refine zF rfl rfl ?_|refine zH rfl rfl ?_|refine zT rfl rfl rfl ?_)))
        refine JL_front (Er v S.2.1 S.2.2) ?_
        refine JL_er (fun h0 h00 hv => ?_) (fun qf h0 hv => ?_)
        · subst hv
          rw [if_neg (by simpa using h0)] at hf
          repeat (first|(first|refine zB ?_|refine zE ?_|refine zG ?_|refine zP ?_|refine zJ rfl ?_)|(first|((first|refine zA rfl ?_);first|refine JOq (uJ rfl) rfl ?_|refine zH rfl rfl ?_|refine zW rfl rfl (by first | rfl | assumption) rfl ?_)))
          exact ⟨⟨(S.1,A.rest,A.pl),hf,by dsimp only;omega,by have := hle h0;dsimp only;omega⟩,by (repeat (first|exact zM _|refine zI rfl ?_)),rfl,Ent.sel⟩
        · subst hv
          rw [if_pos h0] at hf
          subst hf
          repeat (first|(first|refine zB ?_|refine zE ?_|refine zG ?_|refine zL rfl ?_|refine zV ?_)|(first|((first|refine zA rfl ?_);first|refine JOq (JQ_neIf1 rfl) rfl ?_|refine zH rfl rfl ?_|refine zW rfl rfl (by first | rfl | assumption) rfl ?_)))
          exact endM_cE rfl rfl rfl (xH qf,⟨op,0,b,c,d,[]⟩,(.slice none 0 0)) (fun h => absurd h h0) rfl ((Ent.sel (K := [Ft qf S.2.1 S.2.2,pt n3 (.cells #[.int .i64 ((op : Nat) : Int),.int .i64 0,.int .i64 b,.int .i64 c,.int .i64 d,(.slice none 0 0)] 52 (0,0)),yC 3 1 (.slice none 0 0) 0 (ints []),RdB q A.rest A.pl])).trans (tH h0))
      · rw [manyK_ge hlm] at hf
        repeat (first|(first|refine zP ?_)|(first|((first|refine zA rfl ?_);first|refine zD rfl rfl ?_)))
        exact ⟨⟨(least,bs,pl),hf,hpl,hb6⟩,by (repeat (first|exact zM _|refine zI rfl ?_)),rfl,Ent.sel⟩
    rintro ⟨⟨m,bs,pl⟩,hf,hpl,hm⟩
    dsimp only [thn] at hf hpl hm ⊢
    repeat (first|(first|refine zB ?_|refine zE ?_|refine zG ?_|refine zK ?_)|(first|((first|refine zA rfl ?_);first|refine zD rfl rfl ?_)))
    refine xU (β := { y : Nat × List Nat × (List UInt8 × Int) × Value // y.2.2.2.oneCell' = true ∧ y.1 ≤ m ∧ R = listK (m - y.1) rl y.2.1 (finK op b c d) y.2.2.1.1 y.2.2.1.2 ∧ y.2.1.length = y.1 ∧ (0 ≤ y.2.2.1.2 ∧ y.2.2.1.2 + (y.2.2.1.1.length : Int) ≤ 1000000) }) (fun y => [(2,ptr n3),(3,ptr n5),(4,ptr n4),(6,ptr n6),(55,.int .i64 (m : Int)),(56,.int .i64 (y.1.1 : Int))]) (fun _ => [collected rr]) (fun y => [pt rr (.deferred (some [])),pt n3 (.cells #[.int .i64 ((op : Nat) : Int),.int .i64 0,.int .i64 b,.int .i64 c,.int .i64 d,y.1.2.2.2] 52 (0,0)),RdB q y.1.2.2.1.1 y.1.2.2.1.2,pt n5 (.cells #[.bool false,.int .i64 rb,.int .i64 rc,.int .i64 rd,.int .i64 rl,.int .i64 (least : Int),.int .i64 (most : Int),.bool un] 252 (0,0)),pt n4 (.cells #[ptr q] 70 (0,0)),pt n6 (.cells #[.nilIface] 43 (0,0)),yC 3 1 y.1.2.2.2 y.1.2.1.length (ints (vI y.1.2.1))]) (fun y => m - y.1.1) ⟨(0,[],(bs,pl),(.slice none 0 0)),rfl,by omega,hf,rfl,hpl⟩ ?_ rfl (Ent.sel (K := [pt rr (.deferred (some [])),pt n3 (.cells #[.int .i64 ((op : Nat) : Int),.int .i64 0,.int .i64 b,.int .i64 c,.int .i64 d,(.slice none 0 0)] 52 (0,0)),RdB q bs pl,pt n5 (.cells #[.bool false,.int .i64 rb,.int .i64 rc,.int .i64 rd,.int .i64 rl,.int .i64 (least : Int),.int .i64 (most : Int),.bool un] 252 (0,0)),pt n4 (.cells #[ptr q] 70 (0,0)),pt n6 (.cells #[.nilIface] 43 (0,0)),yC 3 1 (.slice none 0 0) 0 (ints [])])) ?_
    · (repeat (first|exact zM _|refine zI rfl ?_))
    rintro ⟨⟨k,acc,⟨bs,pl⟩,sv⟩,hsv,hk,hf,hacc,hpl⟩
    dsimp only at hsv hk hf hacc hpl ⊢
    by_cases hkm : k < m
    · have hs := sm_E q bs pl rl hpl (by omega)
      have hu := uA_ok bs pl
      rw [show m - k = (m - (k + 1)) + 1 from by omega,listK_succ] at hf
      unfold vY at hf
      dsimp only at hf
      generalize smA bs pl rl = S at *
      generalize uA bs pl = A at *
      repeat (first|(first|refine zB ?_|refine zE ?_|refine zG ?_|refine zK ?_|refine zP ?_|refine zL rfl ?_)|(first|((first|refine zA rfl ?_);first|refine JOq (yH rfl rfl (by omega)) rfl ?_|refine yK rfl hs rfl (fun v _ => ?_)|refine zD rfl rfl ?_|refine zC rfl rfl ?_|refine zF rfl rfl ?_|refine zH rfl rfl ?_|refine zT rfl rfl rfl ?_)))
      refine JL_front (Er v S.2.1 S.2.2) ?_
      refine JL_er (fun h0 h00 hv => ?_) (fun qf h0 hv => ?_)
      · subst hv
        rw [if_neg (by simpa using h0)] at hf
        repeat (first|(first|refine zB ?_|refine zE ?_|refine zP ?_|refine zJ rfl ?_)|(first|((first|refine zA rfl ?_);first|refine JOq (uJ rfl) rfl ?_|refine JOq (yQ rfl) rfl ?_|refine zD rfl rfl ?_|refine zF rfl rfl ?_|refine zH rfl rfl ?_|refine yP rfl rfl rfl (by decide) rfl (fun r => ?_))))
        refine zA rfl (wM (sz := 1) (n := acc.length) (m := 1) (news := [.int .i64 ((S.1 : Nat) : Int)]) rfl rfl wL rfl (by decide) rfl (by simp [Value.oneCell']) (by omega) (by decide) rfl fun v' hv' => ?_)
        repeat (first|(first|refine zB ?_|refine zE ?_)|(first|((first|refine zA rfl ?_);first|refine JOq (yQ rfl) rfl ?_|refine yZ (b := 1) rfl rfl (by omega) rfl ?_|refine zD rfl rfl ?_|refine zF rfl rfl ?_|refine zW rfl rfl (by first | rfl | assumption) rfl ?_)))
        refine ⟨⟨(k + 1,acc ++ [S.1],(A.rest,A.pl),v'),hv',by omega,hf,by simp [hacc],by dsimp only;omega⟩,by simp only;omega,by (repeat (first|exact zM _|refine zI rfl ?_)),rfl,?_⟩
        dsimp only
        rw [ints_more,List.length_append,List.length_singleton]
        exact Ent.sel
      · subst hv
        rw [if_pos h0] at hf
        subst hf
        repeat (first|(first|refine zB ?_|refine zE ?_|refine zG ?_|refine zL rfl ?_|refine zV ?_)|(first|((first|refine zA rfl ?_);first|refine JOq (JQ_neIf1 rfl) rfl ?_|refine zD rfl rfl ?_|refine zW rfl rfl (by first | rfl | assumption) rfl ?_)))
        refine endM_cE rfl rfl rfl (xH qf,⟨op,0,b,c,d,vI acc⟩,sv) (fun h => absurd h h0) rfl ?_
        dsimp only
        rw [show (vI acc).length = acc.length from by simp [vI]]
        exact (Ent.sel (K := [Ft qf S.2.1 S.2.2,pt n3 (.cells #[.int .i64 ((op : Nat) : Int),.int .i64 0,.int .i64 b,.int .i64 c,.int .i64 d,sv] 52 (0,0)),yC 3 1 sv acc.length (ints (vI acc)),RdB q A.rest A.pl])).trans (tH h0)
    · obtain rfl : k = m := by omega
      rw [Nat.sub_self,listK_0] at hf
      subst hf
      repeat (first|(first|refine zB ?_|refine zE ?_|refine zG ?_|refine zJ rfl ?_|refine xA ?_|refine zV ?_)|(first|((first|refine zA rfl ?_);first|refine JOq (yS rfl rfl (by omega)) rfl ?_|refine zW rfl rfl (by first | rfl | assumption) rfl ?_)))
      refine endM_cE rfl rfl rfl (.nilIface,⟨op,0,b,c,d,vI acc⟩,sv) (fun _ => rfl) rfl ?_
      dsimp only [finK]
      rw [show (vI acc).length = acc.length from by simp [vI]]
      exact (Ent.sel (K := [pt n3 (.cells #[.int .i64 ((op : Nat) : Int),.int .i64 0,.int .i64 b,.int .i64 c,.int .i64 d,sv] 52 (0,0)),yC 3 1 sv acc.length (ints (vI acc)),RdB q bs pl])).trans er_none
  · intro rr t
    refine wE (fun _ _ hs => hs.tail.tail.out fact_out) (fun hz => ?_)
    refine zV ?_
    exact endM_cE rfl rfl rfl (xH t.1,⟨op,0,t.2.1,t.2.2.1,t.2.2.2,[]⟩,(.slice none 0 0)) (fun h => absurd h hz) rfl ((Ent.sel (K := [Ft t.1 R.c R.a,pt n3 (.cells #[.int .i64 ((op : Nat) : Int),.int .i64 0,.int .i64 t.2.1,.int .i64 t.2.2.1,.int .i64 t.2.2.2,(.slice none 0 0)] 52 (0,0)),yC 3 1 (.slice none 0 0) 0 (ints []),RdB q R.bs R.pl])).trans (tH hz))
theorem operands_c (r : Row) (hb1 : r.b ≤ 1000) (hb2 : r.c ≤ 1000) (hb3 : r.d ≤ 1000) (hb4 : r.l ≤ 1000) (hb5 : r.most ≤ 8) (hb6 : r.least ≤ 8) (q n3 op : Nat) (bs : List UInt8) (pl : Int) (hpl : 0 ≤ pl ∧ pl + bs.length ≤ 1000000) :
    Ct Tryz.prog 168 #[.agg (tK r).toArray,ptr q,ptr n3] [RdB q bs pl,pt n3 (.cells #[.int .i64 ((op : Nat) : Int),.int .i64 0,.int .i64 0,.int .i64 0,.int .i64 0,(.slice none 0 0)] 52 (0,0))] (OpQ (xS r op bs pl) q n3) := by
  cases hw : r.whole with
  | true => exact operands_w r hw q n3 op bs pl hpl
  | false => exact operands_s r hw hb1 hb2 hb3 hb4 hb5 hb6 q n3 op bs pl hpl
end Go.Proofs.YtickblndgihoeaaGreatDoor

/- Layer 9: the document reads operands. -/
namespace Go.Proofs.YtickblndgihoeaaGreatDoor
open Go Go.Sp
structure LsR where
  l : List Nat
  c : Int
  a : Int
  bs : List UInt8
  pl : Int
def vX : Nat → Int → List Nat → List UInt8 → Int → LsR
  | 0,_,acc,bs,pl => ⟨acc,0,0,bs,pl⟩
  | n + 1,m,acc,bs,pl => if (smA bs pl m).2.1 ≠ 0 then ⟨[],(smA bs pl m).2.1,(smA bs pl m).2.2,(uA bs pl).rest,(uA bs pl).pl⟩ else vX n m (acc ++ [(smA bs pl m).1]) (uA bs pl).rest (uA bs pl).pl
def cntA (many m : Int) (bs : List UInt8) (pl : Int) : LsR := if (smA bs pl many).2.1 ≠ 0 then ⟨[],(smA bs pl many).2.1,(smA bs pl many).2.2,(uA bs pl).rest,(uA bs pl).pl⟩ else vX (smA bs pl many).1 m [] (uA bs pl).rest (uA bs pl).pl
theorem listK_A (k : List Nat → RK) : ∀ (n : Nat) (m : Int) (acc : List Nat) (bs : List UInt8) (pl : Int),listK n m acc k bs pl = if (vX n m acc bs pl).c ≠ 0 then vZ (vX n m acc bs pl).c (vX n m acc bs pl).a (vX n m acc bs pl).bs (vX n m acc bs pl).pl else k (vX n m acc bs pl).l (vX n m acc bs pl).bs (vX n m acc bs pl).pl := by
  intro n
  induction n with
  | zero => intro m acc bs pl;simp [listK,vX]
  | succ n ih =>
    intro m acc bs pl
    simp only [listK,vX,vY]
    split
    · rfl
    · exact ih _ _ _ _
theorem cntK_A (k : List Nat → RK) (many m : Int) (bs : List UInt8) (pl : Int) : vY many (fun n => listK n m [] k) bs pl = if (cntA many m bs pl).c ≠ 0 then vZ (cntA many m bs pl).c (cntA many m bs pl).a (cntA many m bs pl).bs (cntA many m bs pl).pl else k (cntA many m bs pl).l (cntA many m bs pl).bs (cntA many m bs pl).pl := by
  unfold vY cntA
  split
  · rfl
  · exact listK_A k _ _ _ _ _
theorem sm_a {bs : List UInt8} {pl most : Int} : (smA bs pl most).2.1 = 0 → (smA bs pl most).2.2 = 0 := by
  unfold smA
  split
  · intro h;rename_i h1;exact absurd h h1
  · split
    · intro h;simp at h
    · intro _;rfl
theorem listA_ok : ∀ (n : Nat) (m : Int) (acc : List Nat) (bs : List UInt8) (pl : Int),((vX n m acc bs pl).c = 0 → (vX n m acc bs pl).a = 0 ∧ (vX n m acc bs pl).l.length = acc.length + n) ∧ ((vX n m acc bs pl).c ≠ 0 → (vX n m acc bs pl).l = []) := by
  intro n
  induction n with
  | zero => intro m acc bs pl;simp [vX]
  | succ n ih =>
    intro m acc bs pl
    simp only [vX]
    split
    · rename_i h;exact ⟨fun h2 => absurd h2 h,fun _ => rfl⟩
    · have := ih m (acc ++ [(smA bs pl m).1]) (uA bs pl).rest (uA bs pl).pl
      refine ⟨fun h => ?_,this.2⟩
      have h2 := this.1 h
      rw [List.length_append,List.length_singleton] at h2
      exact ⟨h2.1,by omega⟩
theorem listA_0 {m : Int} {acc : List Nat} {bs : List UInt8} {pl : Int} : vX 0 m acc bs pl = ⟨acc,0,0,bs,pl⟩ := rfl
theorem listA_succ {n : Nat} {m : Int} {acc : List Nat} {bs : List UInt8} {pl : Int} : vX (n + 1) m acc bs pl = if (smA bs pl m).2.1 ≠ 0 then ⟨[],(smA bs pl m).2.1,(smA bs pl m).2.2,(uA bs pl).rest,(uA bs pl).pl⟩ else vX n m (acc ++ [(smA bs pl m).1]) (uA bs pl).rest (uA bs pl).pl := rfl
theorem cnt_eq {many m : Int} {bs : List UInt8} {pl : Int} : cntA many m bs pl = if (smA bs pl many).2.1 ≠ 0 then ⟨[],(smA bs pl many).2.1,(smA bs pl many).2.2,(uA bs pl).rest,(uA bs pl).pl⟩ else vX (smA bs pl many).1 m [] (uA bs pl).rest (uA bs pl).pl := rfl
attribute [local irreducible] callFunc Go.method J JL JO JR JR1 JRl Ct JG JM JM1 JW JW1 JQ JQ0 JS CtD xB zQ ints RdB DrB Er uA smA by8 vX cntA vI
abbrev LsQ (R : LsR) (d : Nat) : Ending → List HP → Prop := RetE (fun v : Value => v.oneCell' = true) (fun v => .tuple #[v,uC R.c R.a]) (fun v => [yC 3 1 v R.l.length (ints (vI R.l)),DrB d R.bs R.pl])
set_option maxHeartbeats 4000000 in
theorem dlist_c (d n : Nat) (m : Int) (bs : List UInt8) (pl : Int) (hpl : 0 ≤ pl ∧ pl + bs.length ≤ 1000000) (hn : n ≤ 1000) (hm : m ≤ 1000) :
    Ct Tryz.prog 176 #[ptr d,.int .i64 (n : Int),.int .i64 m] [DrB d bs pl] (LsQ (vX n m [] bs pl) d) := by
  generalize hR : vX n m [] bs pl = R
  refine yE (vs := [_,_,_]) Tryz.func176 rfl Tryz.ntmps176 (by simp) ?_
  unfold LsQ
  repeat (first|(first|refine zB ?_|refine zE ?_|refine zG ?_|refine zK ?_)|(first|((first|refine zA rfl ?_);first|refine zC rfl rfl ?_|refine zS rfl (fun r => ?_))))
  revert r
  intro n7
  refine xQ (L' := [yC 3 1 (.slice none 0 0) 0 (ints (vI [])),DrB d bs pl,pt n7 (.cells #[.int .i64 0,.int .i64 0] 87 (0,0))]) ((show Ent _ (yC 3 1 (.slice none 0 0) 0 (ints (vI [])) :: _) from by unfold vI;exact uZ).trans Ent.sel) ?_
  refine xU (β := { y : Nat × List Nat × (List UInt8 × Int) × Value // y.2.2.2.oneCell' = true ∧ y.1 ≤ n ∧ vX (n - y.1) m y.2.1 y.2.2.1.1 y.2.2.1.2 = R ∧ y.2.1.length = y.1 ∧ (0 ≤ y.2.2.1.2 ∧ y.2.2.1.2 + (y.2.2.1.1.length : Int) ≤ 1000000) }) (fun y => [(0,ptr d),(1,.int .i64 (n : Int)),(2,.int .i64 m),(7,ptr n7),(8,y.1.2.2.2),(9,.int .i64 (y.1.1 : Int))]) (fun _ => []) (fun y => [yC 3 1 y.1.2.2.2 y.1.2.1.length (ints (vI y.1.2.1)),DrB d y.1.2.2.1.1 y.1.2.2.1.2,pt n7 (.cells #[.int .i64 0,.int .i64 0] 87 (0,0))]) (fun y => n - y.1.1) ⟨(0,[],(bs,pl),(.slice none 0 0)),rfl,by omega,hR,rfl,hpl⟩ ?_ rfl (Ent.sel (K := [yC 3 1 (.slice none 0 0) 0 (ints (vI [])),DrB d bs pl,pt n7 (.cells #[.int .i64 0,.int .i64 0] 87 (0,0))])) ?_
  · (repeat (first|exact zM _|refine zI rfl ?_))
  rintro ⟨⟨k,acc,⟨bs,pl⟩,sv⟩,hsv,hk,hf,hacc,hpl⟩
  dsimp only at hsv hk hf hacc hpl ⊢
  by_cases hkn : k < n
  · have hs := dsm_B d bs pl m hpl (by omega)
    have hu := uA_ok bs pl
    rw [show n - k = (n - (k + 1)) + 1 from by omega,listA_succ] at hf
    generalize smA bs pl m = S at *
    generalize uA bs pl = A at *
    by_cases h0 : S.2.1 = 0
    · rw [if_neg (by simpa using h0)] at hf
      repeat (first|(first|refine zB ?_|refine zE ?_|refine zG ?_|refine zK ?_|refine zP ?_|refine zL rfl ?_|refine zJ rfl ?_)|(first|((first|refine zA rfl ?_);first|refine JOq (yH rfl rfl (by omega)) rfl ?_|refine JOq (vW rfl rfl (by omega)) rfl ?_|refine zD rfl rfl ?_|refine zC rfl rfl ?_|refine zF rfl rfl ?_|refine zH rfl rfl ?_|refine yP rfl rfl rfl (by decide) rfl (fun r => ?_)|refine zT rfl rfl rfl ?_|refine zS rfl (fun r => ?_)|refine zO rfl rfl (by rfl) (by rfl) (by first | decide | simp [Value.oneCell']) rfl ?_|refine zN rfl (hs) rfl ?_)))
      refine zA rfl (wM (sz := 1) (n := acc.length) (m := 1) (news := [.int .i64 ((S.1 : Nat) : Int)]) rfl rfl wL rfl (by decide) rfl (by simp [Value.oneCell']) (by omega) (by decide) rfl fun v' hv' => ?_)
      repeat (first|(first|refine zB ?_|refine zE ?_)|(first|((first|refine zA rfl ?_);first|refine yZ (b := 1) rfl rfl (by omega) rfl ?_|refine zD rfl rfl ?_|refine zC rfl rfl ?_)))
      refine ⟨⟨(k + 1,acc ++ [S.1],(A.rest,A.pl),v'),hv',by omega,hf,by simp [hacc],by dsimp only;omega⟩,by simp only;omega,by (repeat (first|exact zM _|refine zI rfl ?_)),rfl,?_⟩
      dsimp only
      rw [ints_more,List.length_append,List.length_singleton]
      exact Ent.sel
    · rw [if_pos h0] at hf
      subst hf
      repeat (first|(first|refine zB ?_|refine zE ?_|refine zG ?_|refine zK ?_|refine zP ?_|refine zL rfl ?_)|(first|((first|refine zA rfl ?_);first|refine JOq (yH rfl rfl (by omega)) rfl ?_|refine JOq (vS rfl rfl (by omega)) rfl ?_|refine zD rfl rfl ?_|refine zC rfl rfl ?_|refine zF rfl rfl ?_|refine zH rfl rfl ?_|refine zT rfl rfl rfl ?_|refine zS rfl (fun r => ?_)|refine zO rfl rfl (by rfl) (by rfl) (by first | decide | simp [Value.oneCell']) rfl ?_|refine zN rfl (hs) rfl ?_)))
      refine tG none [] Ent.nil ?_
      repeat' (first|refine JW_fin rfl ?_|refine JW_n rfl rfl (by kernel_rfl) (by kernel_rfl) (by kernel_rfl) (by kernel_rfl) rfl (by first|exact vT rfl) ?_|refine JW_only rfl ?_|refine JW_two rfl ?_ ?_|refine vV rfl rfl (zU rfl (by rfl) rfl ⟨by first|exact (fun _ => Ent.sel),?_⟩)|refine vV rfl rfl (zC rfl rfl ⟨by first|exact (fun _ => Ent.sel),?_⟩)|refine vV rfl rfl (zO rfl rfl (by rfl) (by rfl) (by simp [Value.oneCell']) rfl ⟨by first|exact (fun _ => Ent.sel),?_⟩)|refine vV rfl rfl (zC rfl rfl ⟨by first|exact (fun _ => Ent.sel),?_⟩))
      all_goals (refine zV ?_;exact ⟨rfl,_,res_tcW rfl rfl rfl rfl,_,(show Ent _ (yC 3 1 (.slice none 0 0) 0 (ints (vI [])) :: _) from by unfold vI;exact uZ).trans Ent.sel,(.slice none 0 0),rfl,rfl,rfl⟩)
  · obtain rfl : k = n := by omega
    rw [Nat.sub_self,listA_0] at hf
    subst hf
    repeat (first|(first|refine zB ?_|refine zE ?_|refine zG ?_|refine zJ rfl ?_|refine xA ?_|refine zV ?_)|(first|((first|refine zA rfl ?_);first|refine JOq (yS rfl rfl (by omega)) rfl ?_|refine yG (cs := [.int .i64 0,.int .i64 0]) rfl rfl rfl ?_|refine zD rfl rfl ?_|refine zC rfl rfl ?_|refine zO rfl rfl (by rfl) (by rfl) (by first | decide | simp [Value.oneCell']) rfl ?_)))
    exact ⟨rfl,_,res_tcW rfl rfl rfl rfl,_,Ent.sel,sv,hsv,rfl,rfl⟩
set_option maxHeartbeats 4000000 in
theorem dcounted_c (d : Nat) (many : Int) (m : Int) (bs : List UInt8) (pl : Int) (hpl : 0 ≤ pl ∧ pl + bs.length ≤ 1000000) (hn : many ≤ 1000) (hm : m ≤ 1000) :
    Ct Tryz.prog 177 #[ptr d,.int .i64 many,.int .i64 m] [DrB d bs pl] (LsQ (cntA many m bs pl) d) := by
  have hR : cntA many m bs pl = _ := cnt_eq
  generalize cntA many m bs pl = R at *
  have hs := dsm_B d bs pl many hpl (by omega)
  have hu := uA_ok bs pl
  have hle := sm_le (bs := bs) (pl := pl) (most := many)
  generalize smA bs pl many = S at *
  generalize uA bs pl = A at *
  refine yE (vs := [_,_,_]) Tryz.func177 rfl Tryz.ntmps177 (by simp) ?_
  unfold LsQ
  by_cases h0 : S.2.1 = 0
  · rw [if_neg (by simpa using h0)] at hR
    subst hR
    have hl := dlist_c d S.1 m A.rest A.pl (by omega) (by have := hle h0;omega) hm
    unfold LsQ at hl
    generalize vX S.1 m [] A.rest A.pl = R at *
    repeat (first|(first|refine zB ?_|refine zE ?_|refine zG ?_|refine zP ?_|refine zJ rfl ?_|refine zV ?_)|(first|((first|refine zA rfl ?_);first|refine JOq (vW rfl rfl (by omega)) rfl ?_|refine yK rfl hl rfl (fun v hv => ?_)|refine zD rfl rfl ?_|refine zC rfl rfl ?_|refine zF rfl rfl ?_|refine zH rfl rfl ?_|refine zT rfl rfl rfl ?_|refine zS rfl (fun r => ?_)|refine zO rfl rfl (by rfl) (by rfl) (by first | decide | simp [Value.oneCell']) rfl ?_|refine zN rfl (hs) rfl ?_)))
    exact ⟨rfl,_,res_tcW rfl rfl rfl rfl,_,Ent.sel,v,hv,rfl,rfl⟩
  · rw [if_pos h0] at hR
    subst hR
    repeat (first|(first|refine zB ?_|refine zE ?_|refine zG ?_|refine zL rfl ?_)|(first|((first|refine zA rfl ?_);first|refine JOq (vS rfl rfl (by omega)) rfl ?_|refine zD rfl rfl ?_|refine zC rfl rfl ?_|refine zF rfl rfl ?_|refine zH rfl rfl ?_|refine zT rfl rfl rfl ?_|refine zS rfl (fun r => ?_)|refine zO rfl rfl (by rfl) (by rfl) (by first | decide | simp [Value.oneCell']) rfl ?_|refine zN rfl (hs) rfl ?_)))
    refine tG none [] Ent.nil ?_
    repeat' (first|refine JW_fin rfl ?_|refine JW_n rfl rfl (by kernel_rfl) (by kernel_rfl) (by kernel_rfl) (by kernel_rfl) rfl (by first|exact vT rfl) ?_|refine JW_only rfl ?_|refine JW_two rfl ?_ ?_|refine vV rfl rfl (zU rfl (by rfl) rfl ⟨by first|exact (fun _ => Ent.sel),?_⟩)|refine vV rfl rfl (zC rfl rfl ⟨by first|exact (fun _ => Ent.sel),?_⟩)|refine vV rfl rfl (zO rfl rfl (by rfl) (by rfl) (by simp [Value.oneCell']) rfl ⟨by first|exact (fun _ => Ent.sel),?_⟩)|refine vV rfl rfl (zC rfl rfl ⟨by first|exact (fun _ => Ent.sel),?_⟩))
    all_goals (refine zV ?_;exact ⟨rfl,_,res_tcW rfl rfl rfl rfl,_,(show Ent _ (yC 3 1 (.slice none 0 0) 0 (ints (vI [])) :: _) from by unfold vI;exact uZ).trans Ent.sel,(.slice none 0 0),rfl,rfl,rfl⟩)
end Go.Proofs.YtickblndgihoeaaGreatDoor
