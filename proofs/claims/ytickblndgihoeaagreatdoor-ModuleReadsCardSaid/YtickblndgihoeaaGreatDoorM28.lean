/- Layer 3: the document splits (under way). -/
import Derived.Test.YtickblndgihoeaaGreatDoorM27
set_option linter.unusedSimpArgs false
namespace Go.Proofs.YtickblndgihoeaaGreatDoor
open Go Go.Sp
theorem head_get {k : Nat} (h : k < 5) : ∃ c,headL[k]? = some c ∧ headL.drop k = c :: headL.drop (k + 1) := by
  match k,h with
  | 0,_ => exact ⟨67,rfl,rfl⟩
  | 1,_ => exact ⟨76,rfl,rfl⟩
  | 2,_ => exact ⟨81,rfl,rfl⟩
  | 3,_ => exact ⟨89,rfl,rfl⟩
  | 4,_ => exact ⟨1,rfl,rfl⟩
theorem ptd3 {c pl pl2 pl3 : Int} {b1 b2 b3 : List UInt8} {L : List HP} (hc : c ≠ 0) : Ent L (PtD (.pointer none) c b1 pl :: PtD (.pointer none) c b2 pl2 :: PtD (.pointer none) c b3 pl3 :: L) := (ptd_none hc).trans ((ptd_none hc).trans (ptd_none hc))
attribute [local irreducible] callFunc Go.method J JL JO Ct JG JM JM1 JQ JQ0 JS CtD xB RdB DrB Er by8 uA ibits smA PtR PtD k1A stage Fact
set_option maxHeartbeats 4000000 in
theorem dsplit_c (bs : List UInt8) (hb : bs.length ≤ 1000000) :
    Ct Tryz.prog 72 #[str bs] [] (RetE (fun _ : Value × Value × Value => True) (fun x => .tuple #[.agg #[x.1,x.2.1,x.2.2],uC (tE bs).1 (tE bs).2])
      (fun x => [PtD x.1 (tE bs).1 (s1A bs).part (s1A bs).at_,PtD x.2.1 (tE bs).1 (s2A bs).part (s2A bs).at_,PtD x.2.2 (tE bs).1 (s3A bs).part (s3A bs).at_])) := by
  have x0 : (begA headL bs 0).1 ≠ 0 → tE bs = begA headL bs 0 := fun h => by unfold tE;rw [if_pos h]
  refine yE (vs := [_]) Tryz.func72 rfl Tryz.ntmps72 (by simp) ?_
  repeat (first|(first|refine zB ?_|refine zE ?_|refine zG ?_|refine zK ?_)|(first|((first|refine zA rfl ?_);first|refine zC rfl rfl ?_|refine zS rfl (fun r => ?_))))
  rename_i n2 n3 n4
  revert r
  intro n5
  refine xU (β := { i : Nat // i ≤ 5 ∧ begA headL bs 0 = begA (headL.drop i) (bs.drop i) i }) (fun i => [(0,str bs),(2,ptr n2),(3,ptr n3),(4,ptr n4),(5,ptr n5),(6,.int .i64 (i.1 : Int))]) (fun _ => [])
    (fun _ => [pt n2 (.cells #[.pointer none,.pointer none,.pointer none] 138 (0,0)),pt n3 (.cells #[.int .i64 0,.int .i64 0] 87 (0,0)),pt n4 (.cells #[.pointer none,.pointer none,.pointer none] 138 (0,0)),pt n5 (.cells #[.pointer none,.pointer none,.pointer none] 138 (0,0))]) (fun i => 5 - i.1) ⟨0,by simp⟩ ?_ rfl Ent.sel ?_
  · (repeat (first|exact zM _|refine zI rfl ?_))
  rintro ⟨i,hi,e1⟩
  dsimp only
  by_cases h5 : i = 5
  · subst h5
    repeat (first|(first|refine zB ?_|refine zE ?_|refine zG ?_|refine zJ rfl ?_|refine xA ?_)|(first|((first|refine zA rfl ?_);first|refine JOq (yS rfl rfl (by omega)) rfl ?_|refine zD rfl rfl ?_)))
    have hB : begA headL bs 0 = (0,0) := by rw [e1];rfl
    have hB1 : (begA headL bs 0).1 = 0 := by rw [hB]
    have x1 : (s1A bs).c ≠ 0 → tE bs = ((s1A bs).c,(s1A bs).a) := fun h1 => by unfold tE;rw [if_neg (by simpa using hB1),if_pos h1]
    have x2 : (s1A bs).c = 0 → (s2A bs).c ≠ 0 → tE bs = ((s2A bs).c,(s2A bs).a) := fun h1 h2 => by unfold tE;rw [if_neg (by simpa using hB1),if_neg (by simpa using h1),if_pos h2]
    have x3 : (s1A bs).c = 0 → (s2A bs).c = 0 → (s3A bs).c ≠ 0 → tE bs = ((s3A bs).c,(s3A bs).a) := fun h1 h2 h3 => by unfold tE;rw [if_neg (by simpa using hB1),if_neg (by simpa using h1),if_neg (by simpa using h2),if_pos h3]
    have x4 : (s1A bs).c = 0 → (s2A bs).c = 0 → (s3A bs).c = 0 → tE bs = endA (s3A bs).rest (s3A bs).pl := fun h1 h2 h3 => by unfold tE;rw [if_neg (by simpa using hB1),if_neg (by simpa using h1),if_neg (by simpa using h2),if_neg (by simpa using h3)]
    have hln := spl_len bs hB1
    have hl0 : 0 ≤ (5 : Int) ∧ (5 : Int) + ((bs.drop 5).length : Int) ≤ 1000000 := ⟨by omega,by
      have := congrArg List.length (begA_inv headL bs 0 hB1)
      rw [List.length_append] at this
      simp only [headL,List.length_cons,List.length_nil,List.length_drop] at this ⊢
      omega⟩
    have hl1 : 0 ≤ (s1A bs).pl ∧ (s1A bs).pl + ((s1A bs).rest.length : Int) ≤ 1000000 := by omega
    have hl2 : 0 ≤ (s2A bs).pl ∧ (s2A bs).pl + ((s2A bs).rest.length : Int) ≤ 1000000 := by omega
    have hw1 : s1A bs = secA 1 (bs.drop 5) 5 := rfl
    have hw2 : s2A bs = secA 2 (s1A bs).rest (s1A bs).pl := rfl
    have hw3 : s3A bs = secA 3 (s2A bs).rest (s2A bs).pl := rfl
    have h5l : 5 ≤ bs.length := by simp only [List.length_drop] at hl0;have := congrArg List.length (begA_inv headL bs 0 hB1);rw [List.length_append] at this;simp only [headL,List.length_cons,List.length_nil] at this;omega
    have ce : ∀ d,_ := fun d => dend_B d (s3A bs).rest (s3A bs).pl
    clear x0
    generalize tE bs = Z at *
    generalize endA (s3A bs).rest (s3A bs).pl = Y at *
    generalize s1A bs = W1 at *
    generalize s2A bs = W2 at *
    generalize s3A bs = W3 at *
    repeat (first|(first|refine zB ?_|refine zE ?_|refine zG ?_|refine zK ?_)|(first|((first|refine zA rfl ?_);first|refine yG (cs := [str bs,.int .i64 5,.int .i64 0]) rfl rfl rfl ?_|refine zC rfl rfl ?_|refine yN rfl rfl (fun r => ?_))))
    revert r
    intro d
    refine xU (β := { y : Nat × Value × Value × Value // y.1 ≤ 3 ∧ (0 < y.1 → W1.c = 0 ∧ y.2.1.oneCell' = true) ∧ (1 < y.1 → W2.c = 0 ∧ y.2.2.1.oneCell' = true) ∧ (2 < y.1 → W3.c = 0 ∧ y.2.2.2.oneCell' = true) }) (fun y => [(0,str bs),(2,ptr n2),(3,ptr n3),(4,ptr n4),(5,ptr n5),(7,ptr d),(8,.int .i64 (y.1.1 : Int))]) (fun _ => [])
      (fun y => stage y.1.1 [pt n2 (.cells #[.pointer none,.pointer none,.pointer none] 138 (0,0)),pt n3 (.cells #[.int .i64 0,.int .i64 0] 87 (0,0)),pt n4 (.cells #[.pointer none,.pointer none,.pointer none] 138 (0,0)),pt n5 (.cells #[.pointer none,.pointer none,.pointer none] 138 (0,0)),DrB d (bs.drop 5) (5)] [pt n2 (.cells #[.pointer none,.pointer none,.pointer none] 138 (0,0)),pt n3 (.cells #[.int .i64 0,.int .i64 0] 87 (0,0)),pt n4 (.cells #[.pointer none,.pointer none,.pointer none] 138 (0,0)),pt n5 (.cells #[y.1.2.1,.pointer none,.pointer none] 138 (0,0)),PtD y.1.2.1 W1.c W1.part W1.at_,DrB d (W1.rest) (W1.pl)] [pt n2 (.cells #[.pointer none,.pointer none,.pointer none] 138 (0,0)),pt n3 (.cells #[.int .i64 0,.int .i64 0] 87 (0,0)),pt n4 (.cells #[.pointer none,.pointer none,.pointer none] 138 (0,0)),pt n5 (.cells #[y.1.2.1,y.1.2.2.1,.pointer none] 138 (0,0)),PtD y.1.2.1 W1.c W1.part W1.at_,PtD y.1.2.2.1 W2.c W2.part W2.at_,DrB d (W2.rest) (W2.pl)] [pt n2 (.cells #[.pointer none,.pointer none,.pointer none] 138 (0,0)),pt n3 (.cells #[.int .i64 0,.int .i64 0] 87 (0,0)),pt n4 (.cells #[.pointer none,.pointer none,.pointer none] 138 (0,0)),pt n5 (.cells #[y.1.2.1,y.1.2.2.1,y.1.2.2.2] 138 (0,0)),PtD y.1.2.1 W1.c W1.part W1.at_,PtD y.1.2.2.1 W2.c W2.part W2.at_,PtD y.1.2.2.2 W3.c W3.part W3.at_,DrB d (W3.rest) (W3.pl)]) (fun y => 3 - y.1.1) ⟨(0,.pointer none,.pointer none,.pointer none),by simp⟩ ?_ rfl (by
        rw [stage_0]
        exact (Ent.sel (K := [Dr d bs 5 0,pt n2 (.cells #[.pointer none,.pointer none,.pointer none] 138 (0,0)),pt n3 (.cells #[.int .i64 0,.int .i64 0] 87 (0,0)),pt n4 (.cells #[.pointer none,.pointer none,.pointer none] 138 (0,0)),pt n5 (.cells #[.pointer none,.pointer none,.pointer none] 138 (0,0))])).trans ((drb_close (k := 5) (bs := bs.drop 5) (pl := 5) rfl h5l rfl (by omega) (by omega) (by omega)).trans Ent.sel)) ?_
    · (repeat (first|exact zM _|refine zI rfl ?_))
    rintro ⟨⟨k,v1,v2,v3⟩,hk,q1,q2,q3⟩
    dsimp only at hk q1 q2 q3 ⊢
    match k,hk with
      | 0,_ =>
        rw [stage_0]
        have hpl := dplace_B d (bs.drop 5) (5)
        have hby := dbyte_B d (bs.drop 5) (5)
        have hlen : 0 ≤ (5 : Int) ∧ (5 : Int) + ((bs.drop 5).length : Int) ≤ 1000000 := hl0
        have xk := x1
        have hW := hw1
        generalize bs.drop 5 = s at *
        generalize (5 : Int) = p at *
        cases s with
        | nil =>
          rw [show secA 1 [] p = ⟨[],0,3,p,[],p⟩ from rfl] at hW
          subst hW
          rw [xk (by show (3 : Int) ≠ 0;decide)]
          simp only [byteA,wX] at hby
          repeat (first|(first|refine zB ?_|refine zE ?_|refine zG ?_|refine zK ?_|refine zP ?_|refine zL rfl ?_)|(first|((first|refine zA rfl ?_);first|refine JOq (yH rfl rfl (by omega)) rfl ?_|refine JOq (vS rfl rfl (by omega)) rfl ?_|refine zD rfl rfl ?_|refine zC rfl rfl ?_|refine zF rfl rfl ?_|refine zH rfl rfl ?_|refine zT rfl rfl rfl ?_|refine zS rfl (fun r => ?_)|refine zO rfl rfl (by rfl) (by rfl) (by first | decide | simp [Value.oneCell']) rfl ?_|refine zN rfl (hpl) rfl ?_|refine zN rfl (hby) rfl ?_)))
          repeat' (first|refine J_regionD ?_|refine JA_end rfl ?_|refine JA_step rfl ?_|exact jal_nil|refine jal_no rfl ?_|refine jal_yes rfl ?_ ?_|(first|((first|refine JA_op rfl rfl ?_);first|refine zU rfl (by rfl) rfl ?_|refine zO rfl rfl (by rfl) (by rfl) (by first | decide | simp [Value.oneCell']) rfl ?_)))
          all_goals (refine zV ?_;exact ⟨rfl,_,uO rfl (yV (n := 3) rfl (by rfl)) (yV (n := 2) rfl (by rfl)),_,Ent.trans .nil (ptd3 (L := []) (by first | assumption|(show (3 : Int) ≠ 0;decide)|(show (7 : Int) ≠ 0;decide))),(.pointer none,.pointer none,.pointer none),trivial,rfl,rfl⟩)
        | cons b t =>
          simp only [byteA,wX] at hby
          by_cases hb1 : b = 1
          · subst hb1
            have hsm := dsm_B d t (p + 1) 65536 (by simp only [List.length_cons] at hlen;omega) (by decide)
            have hu := uA_ok t (p + 1)
            unfold secA at hW
            simp only [ne_eq,not_true_eq_false,if_false] at hW
            generalize smA t (p + 1) 65536 = M at *
            generalize uA t (p + 1) = A at *
            by_cases h1 : M.2.1 = 0
            · rw [if_neg (by simpa using h1)] at hW
              have hpt := dpart_D d A.rest A.pl M.1
              by_cases h2 : A.rest.length < M.1
              · rw [if_pos h2] at hW
                subst hW
                rw [xk (by show (3 : Int) ≠ 0;decide)]
                rw [show takeA A.rest A.pl M.1 = ([],3,A.pl) from by unfold takeA;rw [if_neg (by omega),if_pos (by omega)],show takeR A.rest A.pl M.1 = (A.rest,A.pl) from by unfold takeR;rw [if_neg (by omega),if_pos (by omega)]] at hpt
                repeat (first|(first|refine zB ?_|refine zE ?_|refine zG ?_|refine zK ?_|refine zP ?_|refine zL rfl ?_|refine zJ rfl ?_)|(first|((first|refine zA rfl ?_);first|refine JOq (yH rfl rfl (by omega)) rfl ?_|refine JOq (vW rfl rfl (by omega)) rfl ?_|refine JOq (yX (a := 1) rfl (vF (by omega))) rfl ?_|refine yK rfl hpt rfl (fun x hx1 => ?_)|refine zD rfl rfl ?_|refine zC rfl rfl ?_|refine zF rfl rfl ?_|refine zH rfl rfl ?_|refine JO_neI rfl rfl rfl ?_|refine JO_add rfl rfl (by omega) rfl ?_|refine zT rfl rfl rfl ?_|refine zS rfl (fun r => ?_)|refine zO rfl rfl (by rfl) (by rfl) (by first | decide | simp [Value.oneCell']) rfl ?_|refine zN rfl (hpl) rfl ?_|refine zN rfl (hby) rfl ?_|refine zN rfl (hsm) rfl ?_)))
                repeat' (first|refine J_regionD ?_|refine JA_end rfl ?_|refine JA_step rfl ?_|exact jal_nil|refine jal_no rfl ?_|refine jal_yes rfl ?_ ?_|(first|((first|refine JA_op rfl rfl ?_);first|refine zU rfl (by rfl) rfl ?_|refine zO rfl rfl (by rfl) (by rfl) (by first | decide | simp [Value.oneCell']) rfl ?_)))
                all_goals (refine zV ?_;exact ⟨rfl,_,uO rfl (yV (n := 3) rfl (by rfl)) (yV (n := 2) rfl (by rfl)),_,Ent.trans .nil (ptd3 (L := []) (by first | assumption|(show (3 : Int) ≠ 0;decide)|(show (7 : Int) ≠ 0;decide))),(.pointer none,.pointer none,.pointer none),trivial,rfl,rfl⟩)
              · rw [if_neg h2] at hW
                subst hW
                rw [show takeA A.rest A.pl M.1 = (A.rest.take M.1,0,0) from by unfold takeA;rw [if_neg (by omega),if_neg (by omega),Int.toNat_natCast],show takeR A.rest A.pl M.1 = (A.rest.drop M.1,A.pl + M.1) from by unfold takeR;rw [if_neg (by omega),if_neg (by omega),Int.toNat_natCast]] at hpt
                repeat (first|(first|refine zB ?_|refine zE ?_|refine zG ?_|refine zK ?_|refine zP ?_|refine zL rfl ?_|refine zJ rfl ?_)|(first|((first|refine zA rfl ?_);first|refine JOq (yH rfl rfl (by omega)) rfl ?_|refine JOq (vW rfl rfl (by omega)) rfl ?_|refine JOq (yX (a := 1) rfl (vF (by omega))) rfl ?_|refine yK rfl hpt rfl (fun x hx1 => ?_)|refine JOq (yR 0 (j := 0) rfl rfl (by omega) rfl) rfl ?_|refine zD rfl rfl ?_|refine zC rfl rfl ?_|refine zF rfl rfl ?_|refine zH rfl rfl ?_|refine JO_neI rfl rfl rfl ?_|refine JO_add rfl rfl (by omega) rfl ?_|refine zT rfl rfl rfl ?_|refine zS rfl (fun r => ?_)|refine zW rfl rfl (by first | rfl | assumption) rfl ?_|refine zO rfl rfl (by rfl) (by rfl) (by first | decide | simp [Value.oneCell']) rfl ?_|refine zN rfl (hpl) rfl ?_|refine zN rfl (hby) rfl ?_|refine zN rfl (hsm) rfl ?_)))
                refine ⟨⟨(1,x,.pointer none,.pointer none),(show 1 ≤ 3 from by decide),fun _ => ⟨rfl,hx1⟩,fun h => absurd (show 1 < 1 from h) (by decide),fun h => absurd (show 2 < 1 from h) (by decide)⟩,(show 3 - 1 < 3 - 0 from by decide),by (repeat (first|exact zM _|refine zI rfl ?_)),rfl,?_⟩
                rw [stage_1]
                exact Ent.sel
            · rw [if_pos (by simpa using h1)] at hW
              subst hW
              rw [xk h1]
              repeat (first|(first|refine zB ?_|refine zE ?_|refine zG ?_|refine zK ?_|refine zP ?_|refine zL rfl ?_|refine zJ rfl ?_)|(first|((first|refine zA rfl ?_);first|refine JOq (yH rfl rfl (by omega)) rfl ?_|refine JOq (vS rfl rfl (by omega)) rfl ?_|refine JOq (vW rfl rfl (by omega)) rfl ?_|refine JOq (yX (a := 1) rfl (vF (by omega))) rfl ?_|refine zD rfl rfl ?_|refine zC rfl rfl ?_|refine zF rfl rfl ?_|refine zH rfl rfl ?_|refine JO_add rfl rfl (by omega) rfl ?_|refine zT rfl rfl rfl ?_|refine zS rfl (fun r => ?_)|refine zO rfl rfl (by rfl) (by rfl) (by first | decide | simp [Value.oneCell']) rfl ?_|refine zN rfl (hpl) rfl ?_|refine zN rfl (hby) rfl ?_|refine zN rfl (hsm) rfl ?_)))
              repeat' (first|refine J_regionD ?_|refine JA_end rfl ?_|refine JA_step rfl ?_|exact jal_nil|refine jal_no rfl ?_|refine jal_yes rfl ?_ ?_|(first|((first|refine JA_op rfl rfl ?_);first|refine zU rfl (by rfl) rfl ?_|refine zO rfl rfl (by rfl) (by rfl) (by first | decide | simp [Value.oneCell']) rfl ?_)))
              all_goals (refine zV ?_;exact ⟨rfl,_,uO rfl (yV (n := 3) rfl (by rfl)) (yV (n := 2) rfl (by rfl)),_,Ent.trans .nil (ptd3 (L := []) (by first | assumption|(show (3 : Int) ≠ 0;decide)|(show (7 : Int) ≠ 0;decide))),(.pointer none,.pointer none,.pointer none),trivial,rfl,rfl⟩)
          · have hn : b.toNat ≠ 1 := fun h => hb1 (UInt8.toNat_inj.1 h)
            rw [show secA 1 (b :: t) p = ⟨[],0,7,p,t,p + 1⟩ from by unfold secA;simp only;rw [if_pos hb1]] at hW
            subst hW
            rw [xk (by show (7 : Int) ≠ 0;decide)]
            repeat (first|(first|refine zB ?_|refine zE ?_|refine zG ?_|refine zK ?_|refine zP ?_|refine zL rfl ?_|refine zJ rfl ?_|refine zV ?_)|(first|((first|refine zA rfl ?_);first|refine JOq (yH rfl rfl (by omega)) rfl ?_|refine JOq (vS rfl rfl (by omega)) rfl ?_|refine JOq (vW rfl rfl (by omega)) rfl ?_|refine JOq (yX (a := b.toNat) rfl (vF (by have := b.toNat_lt;omega))) rfl ?_|refine yG (cs := [.int .i64 7,.int .i64 p]) rfl rfl rfl ?_|refine zD rfl rfl ?_|refine zC rfl rfl ?_|refine zF rfl rfl ?_|refine zH rfl rfl ?_|refine zU rfl (by rfl) rfl ?_|refine JO_add rfl rfl (by omega) rfl ?_|refine zT rfl rfl rfl ?_|refine zS rfl (fun r => ?_)|refine zO rfl rfl (by rfl) (by rfl) (by first | decide | simp [Value.oneCell']) rfl ?_|refine zN rfl (hpl) rfl ?_|refine zN rfl (hby) rfl ?_)))
            exact ⟨rfl,_,uO rfl (yV (n := 3) rfl (by rfl)) (yV (n := 2) rfl (by rfl)),_,Ent.trans .nil (ptd3 (L := []) (by first | assumption|(show (3 : Int) ≠ 0;decide)|(show (7 : Int) ≠ 0;decide))),(.pointer none,.pointer none,.pointer none),trivial,rfl,rfl⟩
      | 1,_ =>
        rw [stage_1]
        obtain ⟨f1,o1⟩ := q1 (by decide)
        have hpl := dplace_B d (W1.rest) (W1.pl)
        have hby := dbyte_B d (W1.rest) (W1.pl)
        have hlen : 0 ≤ (W1.pl : Int) ∧ (W1.pl : Int) + ((W1.rest).length : Int) ≤ 1000000 := hl1
        have xk := x2 f1
        have hW := hw2
        generalize W1.rest = s at *
        generalize (W1.pl : Int) = p at *
        cases s with
        | nil =>
          rw [show secA 2 [] p = ⟨[],0,3,p,[],p⟩ from rfl] at hW
          subst hW
          rw [xk (by show (3 : Int) ≠ 0;decide)]
          simp only [byteA,wX] at hby
          repeat (first|(first|refine zB ?_|refine zE ?_|refine zG ?_|refine zK ?_|refine zP ?_|refine zL rfl ?_)|(first|((first|refine zA rfl ?_);first|refine JOq (yH rfl rfl (by omega)) rfl ?_|refine JOq (vS rfl rfl (by omega)) rfl ?_|refine zD rfl rfl ?_|refine zC rfl rfl ?_|refine zF rfl rfl ?_|refine zH rfl rfl ?_|refine zT rfl rfl rfl ?_|refine zS rfl (fun r => ?_)|refine zO rfl rfl (by rfl) (by rfl) (by first | decide | simp [Value.oneCell']) rfl ?_|refine zN rfl (hpl) rfl ?_|refine zN rfl (hby) rfl ?_)))
          repeat' (first|refine J_regionD ?_|refine JA_end rfl ?_|refine JA_step rfl ?_|exact jal_nil|refine jal_no rfl ?_|refine jal_yes rfl ?_ ?_|(first|((first|refine JA_op rfl rfl ?_);first|refine zU rfl (by rfl) rfl ?_|refine zO rfl rfl (by rfl) (by rfl) (by first | decide | simp [Value.oneCell']) rfl ?_)))
          all_goals (refine zV ?_;exact ⟨rfl,_,uO rfl (yV (n := 3) rfl (by rfl)) (yV (n := 2) rfl (by rfl)),_,Ent.trans .nil (ptd3 (L := []) (by first | assumption|(show (3 : Int) ≠ 0;decide)|(show (7 : Int) ≠ 0;decide))),(.pointer none,.pointer none,.pointer none),trivial,rfl,rfl⟩)
        | cons b t =>
          simp only [byteA,wX] at hby
          by_cases hb1 : b = 2
          · subst hb1
            have hsm := dsm_B d t (p + 1) 65536 (by simp only [List.length_cons] at hlen;omega) (by decide)
            have hu := uA_ok t (p + 1)
            unfold secA at hW
            simp only [ne_eq,not_true_eq_false,if_false] at hW
            generalize smA t (p + 1) 65536 = M at *
            generalize uA t (p + 1) = A at *
            by_cases h1 : M.2.1 = 0
            · rw [if_neg (by simpa using h1)] at hW
              have hpt := dpart_D d A.rest A.pl M.1
              by_cases h2 : A.rest.length < M.1
              · rw [if_pos h2] at hW
                subst hW
                rw [xk (by show (3 : Int) ≠ 0;decide)]
                rw [show takeA A.rest A.pl M.1 = ([],3,A.pl) from by unfold takeA;rw [if_neg (by omega),if_pos (by omega)],show takeR A.rest A.pl M.1 = (A.rest,A.pl) from by unfold takeR;rw [if_neg (by omega),if_pos (by omega)]] at hpt
                repeat (first|(first|refine zB ?_|refine zE ?_|refine zG ?_|refine zK ?_|refine zP ?_|refine zL rfl ?_|refine zJ rfl ?_)|(first|((first|refine zA rfl ?_);first|refine JOq (yH rfl rfl (by omega)) rfl ?_|refine JOq (vW rfl rfl (by omega)) rfl ?_|refine JOq (yX (a := 2) rfl (vF (by omega))) rfl ?_|refine yK rfl hpt rfl (fun x hx1 => ?_)|refine zD rfl rfl ?_|refine zC rfl rfl ?_|refine zF rfl rfl ?_|refine zH rfl rfl ?_|refine JO_neI rfl rfl rfl ?_|refine JO_add rfl rfl (by omega) rfl ?_|refine zT rfl rfl rfl ?_|refine zS rfl (fun r => ?_)|refine zO rfl rfl (by rfl) (by rfl) (by first | decide | simp [Value.oneCell']) rfl ?_|refine zN rfl (hpl) rfl ?_|refine zN rfl (hby) rfl ?_|refine zN rfl (hsm) rfl ?_)))
                repeat' (first|refine J_regionD ?_|refine JA_end rfl ?_|refine JA_step rfl ?_|exact jal_nil|refine jal_no rfl ?_|refine jal_yes rfl ?_ ?_|(first|((first|refine JA_op rfl rfl ?_);first|refine zU rfl (by rfl) rfl ?_|refine zO rfl rfl (by rfl) (by rfl) (by first | decide | simp [Value.oneCell']) rfl ?_)))
                all_goals (refine zV ?_;exact ⟨rfl,_,uO rfl (yV (n := 3) rfl (by rfl)) (yV (n := 2) rfl (by rfl)),_,Ent.trans .nil (ptd3 (L := []) (by first | assumption|(show (3 : Int) ≠ 0;decide)|(show (7 : Int) ≠ 0;decide))),(.pointer none,.pointer none,.pointer none),trivial,rfl,rfl⟩)
              · rw [if_neg h2] at hW
                subst hW
                rw [show takeA A.rest A.pl M.1 = (A.rest.take M.1,0,0) from by unfold takeA;rw [if_neg (by omega),if_neg (by omega),Int.toNat_natCast],show takeR A.rest A.pl M.1 = (A.rest.drop M.1,A.pl + M.1) from by unfold takeR;rw [if_neg (by omega),if_neg (by omega),Int.toNat_natCast]] at hpt
                repeat (first|(first|refine zB ?_|refine zE ?_|refine zG ?_|refine zK ?_|refine zP ?_|refine zL rfl ?_|refine zJ rfl ?_)|(first|((first|refine zA rfl ?_);first|refine JOq (yH rfl rfl (by omega)) rfl ?_|refine JOq (vW rfl rfl (by omega)) rfl ?_|refine JOq (yX (a := 2) rfl (vF (by omega))) rfl ?_|refine yK rfl hpt rfl (fun x hx1 => ?_)|refine JOq (yR 1 (j := 1) rfl rfl (by omega) rfl) rfl ?_|refine zD rfl rfl ?_|refine zC rfl rfl ?_|refine zF rfl rfl ?_|refine zH rfl rfl ?_|refine JO_neI rfl rfl rfl ?_|refine JO_add rfl rfl (by omega) rfl ?_|refine zT rfl rfl rfl ?_|refine zS rfl (fun r => ?_)|refine zW rfl rfl (by first | rfl | assumption) rfl ?_|refine zO rfl rfl (by rfl) (by rfl) (by first | decide | simp [Value.oneCell']) rfl ?_|refine zN rfl (hpl) rfl ?_|refine zN rfl (hby) rfl ?_|refine zN rfl (hsm) rfl ?_)))
                refine ⟨⟨(2,v1,x,.pointer none),(show 2 ≤ 3 from by decide),fun _ => ⟨f1,o1⟩,fun _ => ⟨rfl,hx1⟩,fun h => absurd (show 2 < 2 from h) (by decide)⟩,(show 3 - 2 < 3 - 1 from by decide),by (repeat (first|exact zM _|refine zI rfl ?_)),rfl,?_⟩
                rw [stage_2]
                exact Ent.sel
            · rw [if_pos (by simpa using h1)] at hW
              subst hW
              rw [xk h1]
              repeat (first|(first|refine zB ?_|refine zE ?_|refine zG ?_|refine zK ?_|refine zP ?_|refine zL rfl ?_|refine zJ rfl ?_)|(first|((first|refine zA rfl ?_);first|refine JOq (yH rfl rfl (by omega)) rfl ?_|refine JOq (vS rfl rfl (by omega)) rfl ?_|refine JOq (vW rfl rfl (by omega)) rfl ?_|refine JOq (yX (a := 2) rfl (vF (by omega))) rfl ?_|refine zD rfl rfl ?_|refine zC rfl rfl ?_|refine zF rfl rfl ?_|refine zH rfl rfl ?_|refine JO_add rfl rfl (by omega) rfl ?_|refine zT rfl rfl rfl ?_|refine zS rfl (fun r => ?_)|refine zO rfl rfl (by rfl) (by rfl) (by first | decide | simp [Value.oneCell']) rfl ?_|refine zN rfl (hpl) rfl ?_|refine zN rfl (hby) rfl ?_|refine zN rfl (hsm) rfl ?_)))
              repeat' (first|refine J_regionD ?_|refine JA_end rfl ?_|refine JA_step rfl ?_|exact jal_nil|refine jal_no rfl ?_|refine jal_yes rfl ?_ ?_|(first|((first|refine JA_op rfl rfl ?_);first|refine zU rfl (by rfl) rfl ?_|refine zO rfl rfl (by rfl) (by rfl) (by first | decide | simp [Value.oneCell']) rfl ?_)))
              all_goals (refine zV ?_;exact ⟨rfl,_,uO rfl (yV (n := 3) rfl (by rfl)) (yV (n := 2) rfl (by rfl)),_,Ent.trans .nil (ptd3 (L := []) (by first | assumption|(show (3 : Int) ≠ 0;decide)|(show (7 : Int) ≠ 0;decide))),(.pointer none,.pointer none,.pointer none),trivial,rfl,rfl⟩)
          · have hn : b.toNat ≠ 2 := fun h => hb1 (UInt8.toNat_inj.1 h)
            rw [show secA 2 (b :: t) p = ⟨[],0,7,p,t,p + 1⟩ from by unfold secA;simp only;rw [if_pos hb1]] at hW
            subst hW
            rw [xk (by show (7 : Int) ≠ 0;decide)]
            repeat (first|(first|refine zB ?_|refine zE ?_|refine zG ?_|refine zK ?_|refine zP ?_|refine zL rfl ?_|refine zJ rfl ?_|refine zV ?_)|(first|((first|refine zA rfl ?_);first|refine JOq (yH rfl rfl (by omega)) rfl ?_|refine JOq (vS rfl rfl (by omega)) rfl ?_|refine JOq (vW rfl rfl (by omega)) rfl ?_|refine JOq (yX (a := b.toNat) rfl (vF (by have := b.toNat_lt;omega))) rfl ?_|refine yG (cs := [.int .i64 7,.int .i64 p]) rfl rfl rfl ?_|refine zD rfl rfl ?_|refine zC rfl rfl ?_|refine zF rfl rfl ?_|refine zH rfl rfl ?_|refine zU rfl (by rfl) rfl ?_|refine JO_add rfl rfl (by omega) rfl ?_|refine zT rfl rfl rfl ?_|refine zS rfl (fun r => ?_)|refine zO rfl rfl (by rfl) (by rfl) (by first | decide | simp [Value.oneCell']) rfl ?_|refine zN rfl (hpl) rfl ?_|refine zN rfl (hby) rfl ?_)))
            exact ⟨rfl,_,uO rfl (yV (n := 3) rfl (by rfl)) (yV (n := 2) rfl (by rfl)),_,Ent.trans .nil (ptd3 (L := []) (by first | assumption|(show (3 : Int) ≠ 0;decide)|(show (7 : Int) ≠ 0;decide))),(.pointer none,.pointer none,.pointer none),trivial,rfl,rfl⟩
      | 2,_ =>
        rw [stage_2]
        obtain ⟨f1,o1⟩ := q1 (by decide)
        obtain ⟨f2,o2⟩ := q2 (by decide)
        have hpl := dplace_B d (W2.rest) (W2.pl)
        have hby := dbyte_B d (W2.rest) (W2.pl)
        have hlen : 0 ≤ (W2.pl : Int) ∧ (W2.pl : Int) + ((W2.rest).length : Int) ≤ 1000000 := hl2
        have xk := x3 f1 f2
        have hW := hw3
        generalize W2.rest = s at *
        generalize (W2.pl : Int) = p at *
        cases s with
        | nil =>
          rw [show secA 3 [] p = ⟨[],0,3,p,[],p⟩ from rfl] at hW
          subst hW
          rw [xk (by show (3 : Int) ≠ 0;decide)]
          simp only [byteA,wX] at hby
          repeat (first|(first|refine zB ?_|refine zE ?_|refine zG ?_|refine zK ?_|refine zP ?_|refine zL rfl ?_)|(first|((first|refine zA rfl ?_);first|refine JOq (yH rfl rfl (by omega)) rfl ?_|refine JOq (vS rfl rfl (by omega)) rfl ?_|refine zD rfl rfl ?_|refine zC rfl rfl ?_|refine zF rfl rfl ?_|refine zH rfl rfl ?_|refine zT rfl rfl rfl ?_|refine zS rfl (fun r => ?_)|refine zO rfl rfl (by rfl) (by rfl) (by first | decide | simp [Value.oneCell']) rfl ?_|refine zN rfl (hpl) rfl ?_|refine zN rfl (hby) rfl ?_)))
          repeat' (first|refine J_regionD ?_|refine JA_end rfl ?_|refine JA_step rfl ?_|exact jal_nil|refine jal_no rfl ?_|refine jal_yes rfl ?_ ?_|(first|((first|refine JA_op rfl rfl ?_);first|refine zU rfl (by rfl) rfl ?_|refine zO rfl rfl (by rfl) (by rfl) (by first | decide | simp [Value.oneCell']) rfl ?_)))
          all_goals (refine zV ?_;exact ⟨rfl,_,uO rfl (yV (n := 3) rfl (by rfl)) (yV (n := 2) rfl (by rfl)),_,Ent.trans .nil (ptd3 (L := []) (by first | assumption|(show (3 : Int) ≠ 0;decide)|(show (7 : Int) ≠ 0;decide))),(.pointer none,.pointer none,.pointer none),trivial,rfl,rfl⟩)
        | cons b t =>
          simp only [byteA,wX] at hby
          by_cases hb1 : b = 3
          · subst hb1
            have hsm := dsm_B d t (p + 1) 65536 (by simp only [List.length_cons] at hlen;omega) (by decide)
            have hu := uA_ok t (p + 1)
            unfold secA at hW
            simp only [ne_eq,not_true_eq_false,if_false] at hW
            generalize smA t (p + 1) 65536 = M at *
            generalize uA t (p + 1) = A at *
            by_cases h1 : M.2.1 = 0
            · rw [if_neg (by simpa using h1)] at hW
              have hpt := dpart_D d A.rest A.pl M.1
              by_cases h2 : A.rest.length < M.1
              · rw [if_pos h2] at hW
                subst hW
                rw [xk (by show (3 : Int) ≠ 0;decide)]
                rw [show takeA A.rest A.pl M.1 = ([],3,A.pl) from by unfold takeA;rw [if_neg (by omega),if_pos (by omega)],show takeR A.rest A.pl M.1 = (A.rest,A.pl) from by unfold takeR;rw [if_neg (by omega),if_pos (by omega)]] at hpt
                repeat (first|(first|refine zB ?_|refine zE ?_|refine zG ?_|refine zK ?_|refine zP ?_|refine zL rfl ?_|refine zJ rfl ?_)|(first|((first|refine zA rfl ?_);first|refine JOq (yH rfl rfl (by omega)) rfl ?_|refine JOq (vW rfl rfl (by omega)) rfl ?_|refine JOq (yX (a := 3) rfl (vF (by omega))) rfl ?_|refine yK rfl hpt rfl (fun x hx1 => ?_)|refine zD rfl rfl ?_|refine zC rfl rfl ?_|refine zF rfl rfl ?_|refine zH rfl rfl ?_|refine JO_neI rfl rfl rfl ?_|refine JO_add rfl rfl (by omega) rfl ?_|refine zT rfl rfl rfl ?_|refine zS rfl (fun r => ?_)|refine zO rfl rfl (by rfl) (by rfl) (by first | decide | simp [Value.oneCell']) rfl ?_|refine zN rfl (hpl) rfl ?_|refine zN rfl (hby) rfl ?_|refine zN rfl (hsm) rfl ?_)))
                repeat' (first|refine J_regionD ?_|refine JA_end rfl ?_|refine JA_step rfl ?_|exact jal_nil|refine jal_no rfl ?_|refine jal_yes rfl ?_ ?_|(first|((first|refine JA_op rfl rfl ?_);first|refine zU rfl (by rfl) rfl ?_|refine zO rfl rfl (by rfl) (by rfl) (by first | decide | simp [Value.oneCell']) rfl ?_)))
                all_goals (refine zV ?_;exact ⟨rfl,_,uO rfl (yV (n := 3) rfl (by rfl)) (yV (n := 2) rfl (by rfl)),_,Ent.trans .nil (ptd3 (L := []) (by first | assumption|(show (3 : Int) ≠ 0;decide)|(show (7 : Int) ≠ 0;decide))),(.pointer none,.pointer none,.pointer none),trivial,rfl,rfl⟩)
              · rw [if_neg h2] at hW
                subst hW
                rw [show takeA A.rest A.pl M.1 = (A.rest.take M.1,0,0) from by unfold takeA;rw [if_neg (by omega),if_neg (by omega),Int.toNat_natCast],show takeR A.rest A.pl M.1 = (A.rest.drop M.1,A.pl + M.1) from by unfold takeR;rw [if_neg (by omega),if_neg (by omega),Int.toNat_natCast]] at hpt
                repeat (first|(first|refine zB ?_|refine zE ?_|refine zG ?_|refine zK ?_|refine zP ?_|refine zL rfl ?_|refine zJ rfl ?_)|(first|((first|refine zA rfl ?_);first|refine JOq (yH rfl rfl (by omega)) rfl ?_|refine JOq (vW rfl rfl (by omega)) rfl ?_|refine JOq (yX (a := 3) rfl (vF (by omega))) rfl ?_|refine yK rfl hpt rfl (fun x hx1 => ?_)|refine JOq (yR 2 (j := 2) rfl rfl (by omega) rfl) rfl ?_|refine zD rfl rfl ?_|refine zC rfl rfl ?_|refine zF rfl rfl ?_|refine zH rfl rfl ?_|refine JO_neI rfl rfl rfl ?_|refine JO_add rfl rfl (by omega) rfl ?_|refine zT rfl rfl rfl ?_|refine zS rfl (fun r => ?_)|refine zW rfl rfl (by first | rfl | assumption) rfl ?_|refine zO rfl rfl (by rfl) (by rfl) (by first | decide | simp [Value.oneCell']) rfl ?_|refine zN rfl (hpl) rfl ?_|refine zN rfl (hby) rfl ?_|refine zN rfl (hsm) rfl ?_)))
                refine ⟨⟨(3,v1,v2,x),(show 3 ≤ 3 from by decide),fun _ => ⟨f1,o1⟩,fun _ => ⟨f2,o2⟩,fun _ => ⟨rfl,hx1⟩⟩,(show 3 - 3 < 3 - 2 from by decide),by (repeat (first|exact zM _|refine zI rfl ?_)),rfl,?_⟩
                rw [stage_3]
                exact Ent.sel
            · rw [if_pos (by simpa using h1)] at hW
              subst hW
              rw [xk h1]
              repeat (first|(first|refine zB ?_|refine zE ?_|refine zG ?_|refine zK ?_|refine zP ?_|refine zL rfl ?_|refine zJ rfl ?_)|(first|((first|refine zA rfl ?_);first|refine JOq (yH rfl rfl (by omega)) rfl ?_|refine JOq (vS rfl rfl (by omega)) rfl ?_|refine JOq (vW rfl rfl (by omega)) rfl ?_|refine JOq (yX (a := 3) rfl (vF (by omega))) rfl ?_|refine zD rfl rfl ?_|refine zC rfl rfl ?_|refine zF rfl rfl ?_|refine zH rfl rfl ?_|refine JO_add rfl rfl (by omega) rfl ?_|refine zT rfl rfl rfl ?_|refine zS rfl (fun r => ?_)|refine zO rfl rfl (by rfl) (by rfl) (by first | decide | simp [Value.oneCell']) rfl ?_|refine zN rfl (hpl) rfl ?_|refine zN rfl (hby) rfl ?_|refine zN rfl (hsm) rfl ?_)))
              repeat' (first|refine J_regionD ?_|refine JA_end rfl ?_|refine JA_step rfl ?_|exact jal_nil|refine jal_no rfl ?_|refine jal_yes rfl ?_ ?_|(first|((first|refine JA_op rfl rfl ?_);first|refine zU rfl (by rfl) rfl ?_|refine zO rfl rfl (by rfl) (by rfl) (by first | decide | simp [Value.oneCell']) rfl ?_)))
              all_goals (refine zV ?_;exact ⟨rfl,_,uO rfl (yV (n := 3) rfl (by rfl)) (yV (n := 2) rfl (by rfl)),_,Ent.trans .nil (ptd3 (L := []) (by first | assumption|(show (3 : Int) ≠ 0;decide)|(show (7 : Int) ≠ 0;decide))),(.pointer none,.pointer none,.pointer none),trivial,rfl,rfl⟩)
          · have hn : b.toNat ≠ 3 := fun h => hb1 (UInt8.toNat_inj.1 h)
            rw [show secA 3 (b :: t) p = ⟨[],0,7,p,t,p + 1⟩ from by unfold secA;simp only;rw [if_pos hb1]] at hW
            subst hW
            rw [xk (by show (7 : Int) ≠ 0;decide)]
            repeat (first|(first|refine zB ?_|refine zE ?_|refine zG ?_|refine zK ?_|refine zP ?_|refine zL rfl ?_|refine zJ rfl ?_|refine zV ?_)|(first|((first|refine zA rfl ?_);first|refine JOq (yH rfl rfl (by omega)) rfl ?_|refine JOq (vS rfl rfl (by omega)) rfl ?_|refine JOq (vW rfl rfl (by omega)) rfl ?_|refine JOq (yX (a := b.toNat) rfl (vF (by have := b.toNat_lt;omega))) rfl ?_|refine yG (cs := [.int .i64 7,.int .i64 p]) rfl rfl rfl ?_|refine zD rfl rfl ?_|refine zC rfl rfl ?_|refine zF rfl rfl ?_|refine zH rfl rfl ?_|refine zU rfl (by rfl) rfl ?_|refine JO_add rfl rfl (by omega) rfl ?_|refine zT rfl rfl rfl ?_|refine zS rfl (fun r => ?_)|refine zO rfl rfl (by rfl) (by rfl) (by first | decide | simp [Value.oneCell']) rfl ?_|refine zN rfl (hpl) rfl ?_|refine zN rfl (hby) rfl ?_)))
            exact ⟨rfl,_,uO rfl (yV (n := 3) rfl (by rfl)) (yV (n := 2) rfl (by rfl)),_,Ent.trans .nil (ptd3 (L := []) (by first | assumption|(show (3 : Int) ≠ 0;decide)|(show (7 : Int) ≠ 0;decide))),(.pointer none,.pointer none,.pointer none),trivial,rfl,rfl⟩
      | 3,_ =>
        rw [stage_3]
        obtain ⟨f1,o1⟩ := q1 (by decide)
        obtain ⟨f2,o2⟩ := q2 (by decide)
        obtain ⟨f3,o3⟩ := q3 (by decide)
        rw [x4 f1 f2 f3]
        have hce := ce d
        by_cases hy : Y.1 = 0
        · rw [f1,f2,f3,hy]
          rw [hy] at hce
          repeat (first|(first|refine zB ?_|refine zE ?_|refine zG ?_|refine zP ?_|refine zJ rfl ?_|refine xA ?_)|(first|((first|refine zA rfl ?_);first|refine JOq (yS rfl rfl (by omega)) rfl ?_|refine JOq (vW rfl rfl (by omega)) rfl ?_|refine zD rfl rfl ?_|refine zF rfl rfl ?_|refine zH rfl rfl ?_|refine zS rfl (fun r => ?_)|refine zO rfl rfl (by rfl) (by rfl) (by first | decide | simp [Value.oneCell']) rfl ?_|refine zN rfl (hce) rfl ?_)))
          repeat' (first|refine J_regionR ?_|refine JR_end rfl ?_|refine JR_step rfl ?_|exact jrl_nil|refine jrl_no rfl ?_|refine jrl_yes rfl ?_ ?_|(first|((first|refine JR_op rfl rfl ?_);first|refine zO rfl rfl (by rfl) (by rfl) (by simp [o1,o2,o3] <;> exact ⟨rfl,rfl⟩) rfl ?_|refine zU rfl (by rfl) rfl ?_)))
          all_goals (refine zV ?_;exact ⟨rfl,_,uO rfl (yV (n := 3) rfl (by rfl)) (yV (n := 2) rfl (by rfl)),_,Ent.sel,(v1,v2,v3),trivial,rfl,rfl⟩)
        · repeat (first|(first|refine zB ?_|refine zE ?_|refine zG ?_|refine zL rfl ?_|refine zJ rfl ?_|refine xA ?_)|(first|((first|refine zA rfl ?_);first|refine JOq (yS rfl rfl (by omega)) rfl ?_|refine JOq (vS rfl rfl (by omega)) rfl ?_|refine zD rfl rfl ?_|refine zF rfl rfl ?_|refine zH rfl rfl ?_|refine zS rfl (fun r => ?_)|refine zO rfl rfl (by rfl) (by rfl) (by first | decide | simp [Value.oneCell']) rfl ?_|refine zN rfl (hce) rfl ?_)))
          repeat' (first|refine J_regionD ?_|refine JA_end rfl ?_|refine JA_step rfl ?_|exact jal_nil|refine jal_no rfl ?_|refine jal_yes rfl ?_ ?_|(first|((first|refine JA_op rfl rfl ?_);first|refine zU rfl (by rfl) rfl ?_|refine zO rfl rfl (by rfl) (by rfl) (by first | decide | simp [Value.oneCell']) rfl ?_)))
          all_goals (refine zV ?_;exact ⟨rfl,_,uO rfl (yV (n := 3) rfl (by rfl)) (yV (n := 2) rfl (by rfl)),_,Ent.trans .nil (ptd3 (L := []) hy),(.pointer none,.pointer none,.pointer none),trivial,rfl,rfl⟩)
  · obtain ⟨c,hc,hd⟩ := head_get (k := i) (by omega)
    by_cases hl : i < bs.length
    · obtain ⟨x,hx⟩ : ∃ x,bs[i]? = some x := ⟨_,List.getElem?_eq_getElem hl⟩
      have hdx : bs.drop i = x :: bs.drop (i + 1) := by rw [List.drop_eq_getElem_cons hl];congr 1;simpa [List.getElem?_eq_getElem hl] using hx
      rw [hd,hdx] at e1
      by_cases hxc : x = c
      · subst hxc
        rw [begA,if_pos rfl] at e1
        repeat (first|(first|refine zB ?_|refine zE ?_|refine zG ?_|refine zK ?_|refine zP ?_|refine zL rfl ?_)|(first|((first|refine zA rfl ?_);first|refine JOq (yH rfl rfl (by omega)) rfl ?_|refine zD rfl rfl ?_)))
        repeat (first|refine vO ?_|refine tA rfl ?_|refine JG_n rfl rfl rfl (by kernel_rfl) (by kernel_rfl) rfl Ent.sel (by first|exact JQ_lenB rfl|exact JQ_geqF rfl rfl (by omega)|exact JQ_idxS (bs := bs) rfl rfl hx|exact JQ_idxS (bs := headL) rfl rfl hc|exact vW rfl rfl (by omega)|exact xE rfl|exact JQ_pickF rfl rfl) ?_|refine JG_nW rfl rfl rfl rfl (by kernel_rfl) (by kernel_rfl) rfl Ent.sel (by first|exact JQ_idxS (bs := bs) rfl rfl hx|exact JQ_idxS (bs := headL) rfl rfl hc|exact vW rfl rfl (by omega)|exact xE rfl) ?_)
        repeat (first|(first|refine zB ?_|refine zE ?_|refine zP ?_|refine zJ rfl ?_)|(first|((first|refine zA rfl ?_);first|refine yZ (b := 1) rfl rfl (by omega) rfl ?_|refine zD rfl rfl ?_|refine zC rfl rfl ?_)))
        exact ⟨⟨i + 1,by omega,by rw [e1];congr 1⟩,by simp only;omega,by (repeat (first|exact zM _|refine zI rfl ?_)),rfl,Ent.sel⟩
      · have hn : x.toNat ≠ c.toNat := fun h => hxc (UInt8.toNat_inj.1 h)
        rw [begA,if_neg hxc] at e1
        repeat (first|(first|refine zB ?_|refine zE ?_|refine zG ?_|refine zK ?_|refine zP ?_|refine zL rfl ?_)|(first|((first|refine zA rfl ?_);first|refine JOq (yH rfl rfl (by omega)) rfl ?_|refine zD rfl rfl ?_)))
        repeat (first|refine vO ?_|refine tA rfl ?_|refine JG_n rfl rfl rfl (by kernel_rfl) (by kernel_rfl) rfl Ent.sel (by first|exact JQ_lenB rfl|exact JQ_geqF rfl rfl (by omega)|exact JQ_idxS (bs := bs) rfl rfl hx|exact JQ_idxS (bs := headL) rfl rfl hc|exact vS rfl rfl (by omega)|exact xE rfl|exact JQ_pickF rfl rfl) ?_|refine JG_nW rfl rfl rfl rfl (by kernel_rfl) (by kernel_rfl) rfl Ent.sel (by first|exact JQ_idxS (bs := bs) rfl rfl hx|exact JQ_idxS (bs := headL) rfl rfl hc|exact vS rfl rfl (by omega)|exact xE rfl) ?_)
        repeat (first|(first|refine zB ?_|refine zE ?_|refine zG ?_|refine zL rfl ?_|refine zV ?_)|(first|((first|refine zA rfl ?_);first|refine yG (cs := [.int .i64 6,.int .i64 (i : Int)]) rfl rfl rfl ?_|refine zD rfl rfl ?_|refine zU rfl (by rfl) rfl ?_|refine zO rfl rfl (by rfl) (by rfl) (by first | decide | simp [Value.oneCell']) rfl ?_)))
        rw [x0 (by rw [e1];show (6 : Int) ≠ 0;decide),e1]
        exact ⟨rfl,_,uO rfl (yV (n := 3) rfl (by rfl)) (yV (n := 2) rfl (by rfl)),_,Ent.trans .nil (ptd3 (L := []) (by show (6 : Int) ≠ 0;decide)),(.pointer none,.pointer none,.pointer none),trivial,rfl,rfl⟩
    · have hdx : bs.drop i = [] := List.drop_eq_nil_iff.2 (by omega)
      rw [hd,hdx,begA] at e1
      repeat (first|(first|refine zB ?_|refine zE ?_|refine zG ?_|refine zK ?_|refine zP ?_|refine zL rfl ?_)|(first|((first|refine zA rfl ?_);first|refine JOq (yH rfl rfl (by omega)) rfl ?_|refine zD rfl rfl ?_)))
      repeat (first|refine vO ?_|refine tA rfl ?_|refine JG_n rfl rfl rfl (by kernel_rfl) (by kernel_rfl) rfl Ent.sel (by first|exact JQ_lenB rfl|exact JQ_geqT rfl rfl (by omega)|exact xE rfl|exact JQ_pickT rfl rfl) ?_|refine JG_nP rfl rfl rfl rfl (by kernel_rfl) (by kernel_rfl) rfl Ent.sel ?_)
      repeat (first|(first|refine zB ?_|refine zE ?_|refine zG ?_|refine zL rfl ?_|refine zV ?_)|(first|((first|refine zA rfl ?_);first|refine yG (cs := [.int .i64 6,.int .i64 (i : Int)]) rfl rfl rfl ?_|refine zD rfl rfl ?_|refine zU rfl (by rfl) rfl ?_|refine zO rfl rfl (by rfl) (by rfl) (by first | decide | simp [Value.oneCell']) rfl ?_)))
      rw [x0 (by rw [e1];show (6 : Int) ≠ 0;decide),e1]
      exact ⟨rfl,_,uO rfl (yV (n := 3) rfl (by rfl)) (yV (n := 2) rfl (by rfl)),_,Ent.trans .nil (ptd3 (L := []) (by show (6 : Int) ≠ 0;decide)),(.pointer none,.pointer none,.pointer none),trivial,rfl,rfl⟩
end Go.Proofs.YtickblndgihoeaaGreatDoor
