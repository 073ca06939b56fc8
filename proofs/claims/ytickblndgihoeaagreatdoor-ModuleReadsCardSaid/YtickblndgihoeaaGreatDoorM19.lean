/- Layer 3: the program joins. -/
import Derived.Test.YtickblndgihoeaaGreatDoorM18
import Derived.Test.YtickblndgihoeaaGreatDoorM5
set_option linter.unusedSimpArgs false
namespace Go.Proofs.YtickblndgihoeaaGreatDoor
open Go Go.Sp
def joinA (x y z : List UInt8) : List UInt8 × Int := if x.length ≤ 65536 ∧ y.length ≤ 65536 ∧ z.length ≤ 65536 then (tB x y z,0) else ([],4)
theorem endM_ccV {L0 : List HP} {P : Program} {N : Nat} {E : Env} {L : List HP} {r : Nat} {M : List HP} [h : Tk (pt r (.deferred (some []))) L M] {fn : Func} {a t c u : Nat} {y z : Value} (hr : fn.results = #[.cell a t,.cell c u]) (h1 : Gives P E M a t y) (h2 : Gives P E M c u z) (he : Ent M L0) :
    bodyQM P N fn (wF (.tuple #[y,z]) L0) .ret E [collected r] L := ⟨r,M,rfl,h.h,_,uO hr h1 h2,_,he,rfl,rfl⟩
attribute [local irreducible] callFunc Go.method J JL JO JR JR1 JRl Ct JG JM JM1 JQ JQ0 JS CtD xB WrB by8 uA ibits stage Fact
set_option maxHeartbeats 4000000 in
theorem join_c (x y z : List UInt8) (hxb : x.length ≤ 200000) (hyb : y.length ≤ 200000) (hzb : z.length ≤ 200000) :
    Ct Tryz.prog 16 #[.agg #[str x,str y,str z]] [] (wF (.tuple #[str (joinA x y z).1,.int .i64 (joinA x y z).2]) []) := by
  have g1 := vM (n := x.length) (by omega)
  have g2 := vM (n := y.length) (by omega)
  have g3 := vM (n := z.length) (by omega)
  refine fn_retM (vs := [_]) Tryz.func16 rfl Tryz.ntmps16 (by simp) ?_
  repeat (first|(first|refine zB ?_|refine zE ?_|refine zG ?_)|(first|((first|refine zA rfl ?_);first|refine yK rfl newwriter_B rfl (fun w _ => ?_)|refine zH rfl rfl ?_|refine yN rfl rfl (fun r => ?_)|refine tL (by rfl) rfl (fun r => ?_)|refine zW rfl rfl (by first | rfl | assumption) rfl ?_)))
  rename_i n1 n2 n3 _
  revert r
  intro n4
  have hput := wput_B w [] headL (by simp [headL])
  rw [List.nil_append] at hput
  repeat (first|(first|refine zB ?_|refine zE ?_|refine zG ?_|refine zK ?_)|(first|((first|refine zA rfl ?_);first|refine zN rfl (hput) rfl ?_|refine zR rfl (sections_c) rfl ?_)))
  refine J_range (σ := Unit) (τ := Unit) (fun i _ => stage i [Fact (True),pt n1 (.cells #[str x,str y,str z] 41 (0,0)),pt n2 (.cells #[.string ⟨#[]⟩] 9 (0,0)),pt n3 (.cells #[.int .i64 0] 30 (0,0)),pt n4 (.cells #[ptr w] 93 (0,0)),WrB w (headL)] [Fact (x.length ≤ 65536),pt n1 (.cells #[str x,str y,str z] 41 (0,0)),pt n2 (.cells #[.string ⟨#[]⟩] 9 (0,0)),pt n3 (.cells #[.int .i64 0] 30 (0,0)),pt n4 (.cells #[ptr w] 93 (0,0)),WrB w (headL ++ vP 1 x)] [Fact (x.length ≤ 65536 ∧ y.length ≤ 65536),pt n1 (.cells #[str x,str y,str z] 41 (0,0)),pt n2 (.cells #[.string ⟨#[]⟩] 9 (0,0)),pt n3 (.cells #[.int .i64 0] 30 (0,0)),pt n4 (.cells #[ptr w] 93 (0,0)),WrB w ((headL ++ vP 1 x) ++ vP 2 y)] [Fact (x.length ≤ 65536 ∧ y.length ≤ 65536 ∧ z.length ≤ 65536),pt n1 (.cells #[str x,str y,str z] 41 (0,0)),pt n2 (.cells #[.string ⟨#[]⟩] 9 (0,0)),pt n3 (.cells #[.int .i64 0] 30 (0,0)),pt n4 (.cells #[ptr w] 93 (0,0)),WrB w (((headL ++ vP 1 x) ++ vP 2 y) ++ vP 3 z)]) (fun _ => .ret)
    (fun _ => [Fact (¬ (x.length ≤ 65536 ∧ y.length ≤ 65536 ∧ z.length ≤ 65536)),pt n2 (.cells #[.string ⟨#[]⟩] 9 (0,0)),pt n3 (.cells #[.int .i64 4] 30 (0,0))]) rfl sections1_c ?_ ?_ () ?_ ?_ ?_ ?_
  · intro q hq
    simp only [secsV,List.mem_cons,List.not_mem_nil,or_false] at hq
    rcases hq with rfl | rfl | rfl <;> rfl
  · decide
  · rw [stage_0]
    exact (wD (p := True) trivial).trans (Ent.sel (K := [Fact (True),pt n1 (.cells #[str x,str y,str z] 41 (0,0)),pt n2 (.cells #[.string ⟨#[]⟩] 9 (0,0)),pt n3 (.cells #[.int .i64 0] 30 (0,0)),pt n4 (.cells #[ptr w] 93 (0,0)),WrB w (headL)]))
  · intro l rec i q s hq
    match i,hq with
      | 0,hq =>
        obtain rfl : [Value.int .i64 ((0 : Nat) : Int),.int .u8 1] = q := Option.some.inj hq
        dsimp only
        rw [stage_0]
        refine J_say fact_out (fun hf => ?_)
        by_cases hx : x.length ≤ 65536
        · have hw := wbyte_B w (headL) 1 (by simp [headL,vP] <;> omega)
          repeat (first|(first|refine zB ?_|refine zE ?_|refine zG ?_|refine zK ?_|refine zP ?_|refine zJ rfl ?_)|(first|((first|refine zA rfl ?_);first|refine JOq (yR 0 (j := 0) rfl rfl (by omega) rfl) rfl ?_|refine JOq (JQ_lenB rfl) rfl ?_|refine JOq (JQ_gtrF rfl rfl (by omega)) rfl ?_|refine zD rfl rfl ?_|refine zC rfl rfl ?_|refine zH rfl rfl ?_|refine zN rfl (hw) rfl ?_)))
          refine J_cut [(1,ptr n1),(2,ptr n2),(3,ptr n3),(4,ptr n4),(5,.int .i64 ((0 : Nat) : Int))] [pt l (.loop rec),pt n1 (.cells #[str x,str y,str z] 41 (0,0)),pt n2 (.cells #[.string ⟨#[]⟩] 9 (0,0)),pt n3 (.cells #[.int .i64 0] 30 (0,0)),pt n4 (.cells #[ptr w] 93 (0,0)),WrB w ((headL) ++ [1] ++ wY x.length)] ?_ ?_
          · repeat' (first|refine J_regionR ?_|refine JR_end rfl ?_|refine JR_step rfl ?_|exact jrl_nil|refine jrl_no rfl ?_|refine jrl_yes rfl ?_ ?_|(first|((first|refine JR_op rfl rfl ?_);first|refine JOq (yR 0 (j := 0) rfl rfl (by omega) rfl) rfl ?_|refine JOq (JQ_lenB rfl) rfl ?_|refine JOq (yX (a := x.length) rfl (xX (by omega))) rfl ?_|refine yK rfl (putu_c w x.length ((headL) ++ [1]) (by omega) (by simp [headL,vP] <;> omega)) rfl (fun _ _ => ?_)|refine zD rfl rfl ?_|refine zH rfl rfl ?_)))
            all_goals exact ⟨by (repeat (first|exact zM _|refine zI rfl ?_)),rfl,Ent.sel⟩
          refine J_cut [(1,ptr n1),(2,ptr n2),(3,ptr n3),(4,ptr n4),(5,.int .i64 ((0 : Nat) : Int))] [pt l (.loop rec),pt n1 (.cells #[str x,str y,str z] 41 (0,0)),pt n2 (.cells #[.string ⟨#[]⟩] 9 (0,0)),pt n3 (.cells #[.int .i64 0] 30 (0,0)),pt n4 (.cells #[ptr w] 93 (0,0)),WrB w (((headL) ++ [1] ++ wY x.length) ++ x)] ?_ ?_
          · repeat' (first|refine J_regionR ?_|refine JR_end rfl ?_|refine JR_step rfl ?_|exact jrl_nil|refine jrl_no rfl ?_|refine jrl_yes rfl ?_ ?_|(first|((first|refine JR_op rfl rfl ?_);first|refine JOq (yR 0 (j := 0) rfl rfl (by omega) rfl) rfl ?_|refine zN rfl (wput_B w ((headL) ++ [1] ++ wY x.length) x (by simp [headL,vP] <;> omega)) rfl ?_|refine zD rfl rfl ?_|refine zH rfl rfl ?_)))
            all_goals exact ⟨by (repeat (first|exact zM _|refine zI rfl ?_)),rfl,Ent.sel⟩
          repeat (first|(first|refine zB ?_)|(first|((first|refine zA rfl ?_);first|refine zD rfl rfl ?_)))
          refine ⟨(),?_⟩
          show Ent _ (_ :: stage 1 _ _ _ _)
          rw [stage_1,show (headL) ++ vP 1 x = ((headL) ++ [1] ++ wY x.length) ++ x from by simp [vP]]
          exact (wD (p := x.length ≤ 65536) hx).trans .sel
        · repeat (first|(first|refine zB ?_|refine zE ?_|refine zG ?_|refine zK ?_|refine zL rfl ?_|refine zV ?_)|(first|((first|refine zA rfl ?_);first|refine JOq (yR 0 (j := 0) rfl rfl (by omega) rfl) rfl ?_|refine JOq (JQ_lenB rfl) rfl ?_|refine JOq (JQ_gtrT rfl rfl (by omega)) rfl ?_|refine zD rfl rfl ?_|refine zC rfl rfl ?_|refine zH rfl rfl ?_|refine zW rfl rfl (by first | rfl | assumption) rfl ?_)))
          refine ⟨(),rfl,?_⟩
          exact (wD (p := ¬ (x.length ≤ 65536 ∧ y.length ≤ 65536 ∧ z.length ≤ 65536)) (by omega)).trans .sel
      | 1,hq =>
        obtain rfl : [Value.int .i64 ((1 : Nat) : Int),.int .u8 2] = q := Option.some.inj hq
        dsimp only
        rw [stage_1]
        refine J_say fact_out (fun hf => ?_)
        by_cases hx : y.length ≤ 65536
        · have hw := wbyte_B w (headL ++ vP 1 x) 2 (by simp [headL,vP] <;> omega)
          repeat (first|(first|refine zB ?_|refine zE ?_|refine zG ?_|refine zK ?_|refine zP ?_|refine zJ rfl ?_)|(first|((first|refine zA rfl ?_);first|refine JOq (yR 1 (j := 1) rfl rfl (by omega) rfl) rfl ?_|refine JOq (JQ_lenB rfl) rfl ?_|refine JOq (JQ_gtrF rfl rfl (by omega)) rfl ?_|refine zD rfl rfl ?_|refine zC rfl rfl ?_|refine zH rfl rfl ?_|refine zN rfl (hw) rfl ?_)))
          refine J_cut [(1,ptr n1),(2,ptr n2),(3,ptr n3),(4,ptr n4),(5,.int .i64 ((1 : Nat) : Int))] [pt l (.loop rec),pt n1 (.cells #[str x,str y,str z] 41 (0,0)),pt n2 (.cells #[.string ⟨#[]⟩] 9 (0,0)),pt n3 (.cells #[.int .i64 0] 30 (0,0)),pt n4 (.cells #[ptr w] 93 (0,0)),WrB w ((headL ++ vP 1 x) ++ [2] ++ wY y.length)] ?_ ?_
          · repeat' (first|refine J_regionR ?_|refine JR_end rfl ?_|refine JR_step rfl ?_|exact jrl_nil|refine jrl_no rfl ?_|refine jrl_yes rfl ?_ ?_|(first|((first|refine JR_op rfl rfl ?_);first|refine JOq (yR 1 (j := 1) rfl rfl (by omega) rfl) rfl ?_|refine JOq (JQ_lenB rfl) rfl ?_|refine JOq (yX (a := y.length) rfl (xX (by omega))) rfl ?_|refine yK rfl (putu_c w y.length ((headL ++ vP 1 x) ++ [2]) (by omega) (by simp [headL,vP] <;> omega)) rfl (fun _ _ => ?_)|refine zD rfl rfl ?_|refine zH rfl rfl ?_)))
            all_goals exact ⟨by (repeat (first|exact zM _|refine zI rfl ?_)),rfl,Ent.sel⟩
          refine J_cut [(1,ptr n1),(2,ptr n2),(3,ptr n3),(4,ptr n4),(5,.int .i64 ((1 : Nat) : Int))] [pt l (.loop rec),pt n1 (.cells #[str x,str y,str z] 41 (0,0)),pt n2 (.cells #[.string ⟨#[]⟩] 9 (0,0)),pt n3 (.cells #[.int .i64 0] 30 (0,0)),pt n4 (.cells #[ptr w] 93 (0,0)),WrB w (((headL ++ vP 1 x) ++ [2] ++ wY y.length) ++ y)] ?_ ?_
          · repeat' (first|refine J_regionR ?_|refine JR_end rfl ?_|refine JR_step rfl ?_|exact jrl_nil|refine jrl_no rfl ?_|refine jrl_yes rfl ?_ ?_|(first|((first|refine JR_op rfl rfl ?_);first|refine JOq (yR 1 (j := 1) rfl rfl (by omega) rfl) rfl ?_|refine zN rfl (wput_B w ((headL ++ vP 1 x) ++ [2] ++ wY y.length) y (by simp [headL,vP] <;> omega)) rfl ?_|refine zD rfl rfl ?_|refine zH rfl rfl ?_)))
            all_goals exact ⟨by (repeat (first|exact zM _|refine zI rfl ?_)),rfl,Ent.sel⟩
          repeat (first|(first|refine zB ?_)|(first|((first|refine zA rfl ?_);first|refine zD rfl rfl ?_)))
          refine ⟨(),?_⟩
          show Ent _ (_ :: stage 2 _ _ _ _)
          rw [stage_2,show (headL ++ vP 1 x) ++ vP 2 y = ((headL ++ vP 1 x) ++ [2] ++ wY y.length) ++ y from by simp [vP]]
          exact (wD (p := x.length ≤ 65536 ∧ y.length ≤ 65536) ⟨hf,hx⟩).trans .sel
        · repeat (first|(first|refine zB ?_|refine zE ?_|refine zG ?_|refine zK ?_|refine zL rfl ?_|refine zV ?_)|(first|((first|refine zA rfl ?_);first|refine JOq (yR 1 (j := 1) rfl rfl (by omega) rfl) rfl ?_|refine JOq (JQ_lenB rfl) rfl ?_|refine JOq (JQ_gtrT rfl rfl (by omega)) rfl ?_|refine zD rfl rfl ?_|refine zC rfl rfl ?_|refine zH rfl rfl ?_|refine zW rfl rfl (by first | rfl | assumption) rfl ?_)))
          refine ⟨(),rfl,?_⟩
          exact (wD (p := ¬ (x.length ≤ 65536 ∧ y.length ≤ 65536 ∧ z.length ≤ 65536)) (by omega)).trans .sel
      | 2,hq =>
        obtain rfl : [Value.int .i64 ((2 : Nat) : Int),.int .u8 3] = q := Option.some.inj hq
        dsimp only
        rw [stage_2]
        refine J_say fact_out (fun hf => ?_)
        by_cases hx : z.length ≤ 65536
        · have hw := wbyte_B w ((headL ++ vP 1 x) ++ vP 2 y) 3 (by simp [headL,vP] <;> omega)
          repeat (first|(first|refine zB ?_|refine zE ?_|refine zG ?_|refine zK ?_|refine zP ?_|refine zJ rfl ?_)|(first|((first|refine zA rfl ?_);first|refine JOq (yR 2 (j := 2) rfl rfl (by omega) rfl) rfl ?_|refine JOq (JQ_lenB rfl) rfl ?_|refine JOq (JQ_gtrF rfl rfl (by omega)) rfl ?_|refine zD rfl rfl ?_|refine zC rfl rfl ?_|refine zH rfl rfl ?_|refine zN rfl (hw) rfl ?_)))
          refine J_cut [(1,ptr n1),(2,ptr n2),(3,ptr n3),(4,ptr n4),(5,.int .i64 ((2 : Nat) : Int))] [pt l (.loop rec),pt n1 (.cells #[str x,str y,str z] 41 (0,0)),pt n2 (.cells #[.string ⟨#[]⟩] 9 (0,0)),pt n3 (.cells #[.int .i64 0] 30 (0,0)),pt n4 (.cells #[ptr w] 93 (0,0)),WrB w (((headL ++ vP 1 x) ++ vP 2 y) ++ [3] ++ wY z.length)] ?_ ?_
          · repeat' (first|refine J_regionR ?_|refine JR_end rfl ?_|refine JR_step rfl ?_|exact jrl_nil|refine jrl_no rfl ?_|refine jrl_yes rfl ?_ ?_|(first|((first|refine JR_op rfl rfl ?_);first|refine JOq (yR 2 (j := 2) rfl rfl (by omega) rfl) rfl ?_|refine JOq (JQ_lenB rfl) rfl ?_|refine JOq (yX (a := z.length) rfl (xX (by omega))) rfl ?_|refine yK rfl (putu_c w z.length (((headL ++ vP 1 x) ++ vP 2 y) ++ [3]) (by omega) (by simp [headL,vP] <;> omega)) rfl (fun _ _ => ?_)|refine zD rfl rfl ?_|refine zH rfl rfl ?_)))
            all_goals exact ⟨by (repeat (first|exact zM _|refine zI rfl ?_)),rfl,Ent.sel⟩
          refine J_cut [(1,ptr n1),(2,ptr n2),(3,ptr n3),(4,ptr n4),(5,.int .i64 ((2 : Nat) : Int))] [pt l (.loop rec),pt n1 (.cells #[str x,str y,str z] 41 (0,0)),pt n2 (.cells #[.string ⟨#[]⟩] 9 (0,0)),pt n3 (.cells #[.int .i64 0] 30 (0,0)),pt n4 (.cells #[ptr w] 93 (0,0)),WrB w ((((headL ++ vP 1 x) ++ vP 2 y) ++ [3] ++ wY z.length) ++ z)] ?_ ?_
          · repeat' (first|refine J_regionR ?_|refine JR_end rfl ?_|refine JR_step rfl ?_|exact jrl_nil|refine jrl_no rfl ?_|refine jrl_yes rfl ?_ ?_|(first|((first|refine JR_op rfl rfl ?_);first|refine JOq (yR 2 (j := 2) rfl rfl (by omega) rfl) rfl ?_|refine zN rfl (wput_B w (((headL ++ vP 1 x) ++ vP 2 y) ++ [3] ++ wY z.length) z (by simp [headL,vP] <;> omega)) rfl ?_|refine zD rfl rfl ?_|refine zH rfl rfl ?_)))
            all_goals exact ⟨by (repeat (first|exact zM _|refine zI rfl ?_)),rfl,Ent.sel⟩
          repeat (first|(first|refine zB ?_)|(first|((first|refine zA rfl ?_);first|refine zD rfl rfl ?_)))
          refine ⟨(),?_⟩
          show Ent _ (_ :: stage 3 _ _ _ _)
          rw [stage_3,show ((headL ++ vP 1 x) ++ vP 2 y) ++ vP 3 z = (((headL ++ vP 1 x) ++ vP 2 y) ++ [3] ++ wY z.length) ++ z from by simp [vP]]
          exact (wD (p := x.length ≤ 65536 ∧ y.length ≤ 65536 ∧ z.length ≤ 65536) ⟨hf.1,hf.2,hx⟩).trans .sel
        · repeat (first|(first|refine zB ?_|refine zE ?_|refine zG ?_|refine zK ?_|refine zL rfl ?_|refine zV ?_)|(first|((first|refine zA rfl ?_);first|refine JOq (yR 2 (j := 2) rfl rfl (by omega) rfl) rfl ?_|refine JOq (JQ_lenB rfl) rfl ?_|refine JOq (JQ_gtrT rfl rfl (by omega)) rfl ?_|refine zD rfl rfl ?_|refine zC rfl rfl ?_|refine zH rfl rfl ?_|refine zW rfl rfl (by first | rfl | assumption) rfl ?_)))
          refine ⟨(),rfl,?_⟩
          exact (wD (p := ¬ (x.length ≤ 65536 ∧ y.length ≤ 65536 ∧ z.length ≤ 65536)) (by omega)).trans .sel
      | k + 3,hq => simp [secsV] at hq
  · intro rr s
    rw [show secsV.length = 3 from rfl,stage_3]
    refine wE (fun _ _ hs => hs.tail.tail.out fact_out) (fun hf => ?_)
    rw [show joinA x y z = (tB x y z,0) from by unfold joinA;rw [if_pos hf],show tB x y z = ((headL ++ vP 1 x) ++ vP 2 y) ++ vP 3 z from by simp [tB]]
    have ht := wtext_B w (((headL ++ vP 1 x) ++ vP 2 y) ++ vP 3 z)
    repeat (first|(first|refine zB ?_|refine zE ?_|refine zG ?_|refine zV ?_)|(first|((first|refine zA rfl ?_);first|refine zH rfl rfl ?_|refine zW rfl rfl (by first | rfl | assumption) rfl ?_|refine zN rfl (ht) rfl ?_)))
    exact endM_ccV rfl (gives_1 rfl rfl) (gives_1 rfl rfl) Ent.sel
  · intro rr s
    refine wE (fun _ _ hs => hs.tail.tail.out fact_out) (fun hz => ?_)
    rw [show joinA x y z = ([],4) from by unfold joinA;rw [if_neg hz]]
    refine zV ?_
    exact endM_ccV rfl (gives_1 rfl rfl) (gives_1 rfl rfl) Ent.sel
end Go.Proofs.YtickblndgihoeaaGreatDoor
