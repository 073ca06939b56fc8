/- Layer 3: the document joins. -/
import Derived.Test.YtickblndgihoeaaGreatDoorM28
import Derived.Test.YtickblndgihoeaaGreatDoorM19
import Derived.Test.YtickblndgihoeaaGreatDoorM5
set_option linter.unusedSimpArgs false
namespace Go.Proofs.YtickblndgihoeaaGreatDoor
open Go Go.Sp
def accL (x y z : List UInt8) (k : Nat) : List UInt8 := if k = 0 then headL else if k = 1 then headL ++ vP 1 x else if k = 2 then (headL ++ vP 1 x) ++ vP 2 y else ((headL ++ vP 1 x) ++ vP 2 y) ++ vP 3 z
theorem acc_len (x y z : List UInt8) (k : Nat) (hx : x.length ≤ 200000) (hy : y.length ≤ 200000) (hz : z.length ≤ 200000) : (accL x y z k).length ≤ 700000 := by
  have g1 := vM (n := x.length) (by omega)
  have g2 := vM (n := y.length) (by omega)
  have g3 := vM (n := z.length) (by omega)
  unfold accL
  split
  · simp [headL]
  · split
    · simp [headL,vP];omega
    · split
      · simp [headL,vP];omega
      · simp [headL,vP];omega
attribute [local irreducible] callFunc Go.method J JL JO JR JR1 JRl Ct JG JM JM1 JQ JQ0 JS CtD xB WrB by8 uA ibits stage Fact accL
set_option maxRecDepth 8000 in
set_option maxHeartbeats 8000000 in
theorem djoin_c (x y z : List UInt8) (hxb : x.length ≤ 200000) (hyb : y.length ≤ 200000) (hzb : z.length ≤ 200000) :
    Ct Tryz.prog 29 #[.agg #[str x,str y,str z]] [] (wF (.tuple #[str (joinA x y z).1,.int .i64 (joinA x y z).2]) []) := by
  have g1 := vM (n := x.length) (by omega)
  have g2 := vM (n := y.length) (by omega)
  have g3 := vM (n := z.length) (by omega)
  refine yE (vs := [_]) Tryz.func29 rfl Tryz.ntmps29 (by simp) ?_
  repeat (first|(first|refine zB ?_|refine zE ?_|refine zG ?_|refine zK ?_)|(first|((first|refine zA rfl ?_);first|refine zC rfl rfl ?_|refine yN rfl rfl (fun r => ?_))))
  revert r
  intro n1
  refine xU (β := { k : Nat // k ≤ 3 ∧ (0 < k → x.length ≤ 65536) ∧ (1 < k → y.length ≤ 65536) ∧ (2 < k → z.length ≤ 65536) }) (fun k => [(1,ptr n1),(2,.string ⟨#[]⟩),(3,.int .i64 0),(4,str (accL x y z k.1)),(5,.int .i64 (k.1 : Int))]) (fun _ => [])
    (fun _ => [pt n1 (.cells #[str x,str y,str z] 41 (0,0))]) (fun k => 3 - k.1) ⟨0,by simp⟩ ?_ rfl Ent.sel ?_
  · rw [show accL x y z 0 = headL from by unfold accL;rfl]
    (repeat (first|exact zM _|refine zI rfl ?_))
  rintro ⟨k,hk,q1,q2,q3⟩
  dsimp only
  match k,hk with
    | 0,_ =>
      have hal := acc_len x y z 0 hxb hyb hzb
      by_cases hx : x.length ≤ 65536
      · have hb := bytes_c x.length (by omega)
        repeat (first|(first|refine zB ?_|refine zE ?_|refine zG ?_|refine zK ?_|refine zP ?_|refine zL rfl ?_|refine zJ rfl ?_)|(first|((first|refine zA rfl ?_);first|refine JOq (yR 0 (j := 0) rfl rfl (by omega) rfl) rfl ?_|refine JOq (JQ_lenB rfl) rfl ?_|refine JOq (yH rfl rfl (by omega)) rfl ?_|refine JOq (JQ_gtrF rfl rfl (by omega)) rfl ?_|refine zD rfl rfl ?_|refine zH rfl rfl ?_)))
        refine J_cut [(1,ptr n1),(2,.string ⟨#[]⟩),(3,.int .i64 0),(4,str (((accL x y z 0 ++ [UInt8.ofNat 1]) ++ wY x.length) ++ x)),(5,.int .i64 ((0 : Nat) : Int))] [pt n1 (.cells #[str x,str y,str z] 41 (0,0))] ?_ ?_
        · refine J_calm ?_
          refine tM 18 [pt n1 (.cells #[str x,str y,str z] 41 (0,0))] Ent.sel ?_
          (refine yO 0 rfl rfl (by kernel_rfl) (by kernel_rfl) (by kernel_rfl) rfl rfl rfl rfl Ent.sel (by first|exact xE rfl) ?_;refine yO 1 rfl rfl (by kernel_rfl) (by kernel_rfl) (by kernel_rfl) rfl rfl rfl rfl Ent.sel (by first|exact xE rfl) ?_;refine yO 2 rfl rfl (by kernel_rfl) (by kernel_rfl) (by kernel_rfl) rfl rfl rfl rfl Ent.sel (by first|exact JQ_addF (a := 0) (b := 1) rfl rfl (vF (by omega))) ?_;refine yO 3 rfl rfl (by kernel_rfl) (by kernel_rfl) (by kernel_rfl) rfl rfl rfl rfl Ent.sel (by first|exact yX (a := 0 + 1) rfl (wrap_u8 (by omega))) ?_;refine yO 7 rfl rfl (by kernel_rfl) (by kernel_rfl) (by kernel_rfl) rfl rfl rfl rfl Ent.sel (by first|exact xE rfl) ?_;refine yO 8 rfl rfl (by kernel_rfl) (by kernel_rfl) (by kernel_rfl) rfl rfl rfl rfl Ent.sel (by first|exact yR 0 (j := 0) rfl rfl (by omega) rfl) ?_;refine yO 9 rfl rfl (by kernel_rfl) (by kernel_rfl) (by kernel_rfl) rfl rfl rfl rfl Ent.sel (by first|exact xL rfl) ?_;refine yO 10 rfl rfl (by kernel_rfl) (by kernel_rfl) (by kernel_rfl) rfl rfl rfl rfl Ent.sel (by first|exact JQ_lenB rfl) ?_;refine yO 11 rfl rfl (by kernel_rfl) (by kernel_rfl) (by kernel_rfl) rfl rfl rfl rfl Ent.sel (by first|exact yX (a := x.length) rfl (xX (by omega))) ?_;refine yO 14 rfl rfl (by kernel_rfl) (by kernel_rfl) (by kernel_rfl) rfl rfl rfl rfl Ent.sel (by first|exact xE rfl) ?_;refine yO 15 rfl rfl (by kernel_rfl) (by kernel_rfl) (by kernel_rfl) rfl rfl rfl rfl Ent.sel (by first|exact yR 0 (j := 0) rfl rfl (by omega) rfl) ?_;refine yO 16 rfl rfl (by kernel_rfl) (by kernel_rfl) (by kernel_rfl) rfl rfl rfl rfl Ent.sel (by first|exact xL rfl) ?_)
          repeat' (first|refine JM_fin rfl ?_|refine JM_two rfl ?_ ?_|refine wW rfl ?_|refine xT rfl rfl (by first|exact xN|exact zX uV|exact zX (fun _ _ _ _ h => .inr (yD _ _ _ _ h))) (yP rfl rfl rfl (by decide) rfl (fun r => ⟨by first|exact (fun _ => Ent.sel),?_⟩))|refine xT rfl rfl (by first|exact xN|exact zX uV|exact zX (fun _ _ _ _ h => .inr (yD _ _ _ _ h))) (zN rfl hb rfl ⟨by first|exact (fun _ => Ent.sel),?_⟩)|refine xT rfl rfl (by first|exact zX uV|exact zX (fun _ _ _ _ h => .inr (yD _ _ _ _ h))) (JOq (JQ_strB (bs := [UInt8.ofNat 1]) rfl rfl (by8_one (by omega)).symm) rfl ⟨by first|exact (fun h => absurd h (by decide))|exact (fun _ => Ent.sel),?_⟩)|refine xT rfl rfl (by first|exact zX uV|exact zX (fun _ _ _ _ h => .inr (yD _ _ _ _ h))) (JOq (uQ rfl rfl (by simp only [List.length_append,List.length_singleton] at *;omega)) rfl ⟨by first|exact (fun _ => Ent.sel),?_⟩)|refine xT rfl rfl (by first|exact zX uV) (zC rfl rfl ⟨by first|exact (fun h => absurd h (by decide)),?_⟩))
          all_goals exact ⟨by (repeat (first|exact zM _|refine zI rfl ?_)),rfl,Ent.sel⟩
        repeat (first|(first|refine zB ?_|refine zE ?_)|(first|((first|refine zA rfl ?_);first|refine yZ (b := 1) rfl rfl (by omega) rfl ?_|refine zD rfl rfl ?_|refine zC rfl rfl ?_)))
        refine ⟨⟨1,by omega,fun _ => hx,fun h => absurd (show 1 < 1 from h) (by decide),fun h => absurd (show 2 < 1 from h) (by decide)⟩,by simp,?_,rfl,Ent.sel⟩
        dsimp only
        rw [show accL x y z 1 = ((accL x y z 0 ++ [UInt8.ofNat 1]) ++ wY x.length) ++ x from by simp [accL,vP]]
        (repeat (first|exact zM _|refine zI rfl ?_))
      · repeat (first|(first|refine zB ?_|refine zE ?_|refine zG ?_|refine zK ?_|refine zP ?_|refine zL rfl ?_|refine zV ?_)|(first|((first|refine zA rfl ?_);first|refine JOq (yR 0 (j := 0) rfl rfl (by omega) rfl) rfl ?_|refine JOq (JQ_lenB rfl) rfl ?_|refine JOq (yH rfl rfl (by omega)) rfl ?_|refine JOq (JQ_gtrT rfl rfl (by omega)) rfl ?_|refine zD rfl rfl ?_|refine zC rfl rfl ?_|refine zH rfl rfl ?_)))
        rw [show joinA x y z = ([],4) from by unfold joinA;rw [if_neg (by omega)]]
        exact ret_twoV rfl rfl rfl .nil
    | 1,_ =>
      have l1 := q1 (by decide)
      have hal := acc_len x y z 1 hxb hyb hzb
      by_cases hx : y.length ≤ 65536
      · have hb := bytes_c y.length (by omega)
        repeat (first|(first|refine zB ?_|refine zE ?_|refine zG ?_|refine zK ?_|refine zP ?_|refine zL rfl ?_|refine zJ rfl ?_)|(first|((first|refine zA rfl ?_);first|refine JOq (yR 1 (j := 1) rfl rfl (by omega) rfl) rfl ?_|refine JOq (JQ_lenB rfl) rfl ?_|refine JOq (yH rfl rfl (by omega)) rfl ?_|refine JOq (JQ_gtrF rfl rfl (by omega)) rfl ?_|refine zD rfl rfl ?_|refine zH rfl rfl ?_)))
        refine J_cut [(1,ptr n1),(2,.string ⟨#[]⟩),(3,.int .i64 0),(4,str (((accL x y z 1 ++ [UInt8.ofNat 2]) ++ wY y.length) ++ y)),(5,.int .i64 ((1 : Nat) : Int))] [pt n1 (.cells #[str x,str y,str z] 41 (0,0))] ?_ ?_
        · refine J_calm ?_
          refine tM 18 [pt n1 (.cells #[str x,str y,str z] 41 (0,0))] Ent.sel ?_
          (refine yO 0 rfl rfl (by kernel_rfl) (by kernel_rfl) (by kernel_rfl) rfl rfl rfl rfl Ent.sel (by first|exact xE rfl) ?_;refine yO 1 rfl rfl (by kernel_rfl) (by kernel_rfl) (by kernel_rfl) rfl rfl rfl rfl Ent.sel (by first|exact xE rfl) ?_;refine yO 2 rfl rfl (by kernel_rfl) (by kernel_rfl) (by kernel_rfl) rfl rfl rfl rfl Ent.sel (by first|exact JQ_addF (a := 1) (b := 1) rfl rfl (vF (by omega))) ?_;refine yO 3 rfl rfl (by kernel_rfl) (by kernel_rfl) (by kernel_rfl) rfl rfl rfl rfl Ent.sel (by first|exact yX (a := 1 + 1) rfl (wrap_u8 (by omega))) ?_;refine yO 7 rfl rfl (by kernel_rfl) (by kernel_rfl) (by kernel_rfl) rfl rfl rfl rfl Ent.sel (by first|exact xE rfl) ?_;refine yO 8 rfl rfl (by kernel_rfl) (by kernel_rfl) (by kernel_rfl) rfl rfl rfl rfl Ent.sel (by first|exact yR 1 (j := 1) rfl rfl (by omega) rfl) ?_;refine yO 9 rfl rfl (by kernel_rfl) (by kernel_rfl) (by kernel_rfl) rfl rfl rfl rfl Ent.sel (by first|exact xL rfl) ?_;refine yO 10 rfl rfl (by kernel_rfl) (by kernel_rfl) (by kernel_rfl) rfl rfl rfl rfl Ent.sel (by first|exact JQ_lenB rfl) ?_;refine yO 11 rfl rfl (by kernel_rfl) (by kernel_rfl) (by kernel_rfl) rfl rfl rfl rfl Ent.sel (by first|exact yX (a := y.length) rfl (xX (by omega))) ?_;refine yO 14 rfl rfl (by kernel_rfl) (by kernel_rfl) (by kernel_rfl) rfl rfl rfl rfl Ent.sel (by first|exact xE rfl) ?_;refine yO 15 rfl rfl (by kernel_rfl) (by kernel_rfl) (by kernel_rfl) rfl rfl rfl rfl Ent.sel (by first|exact yR 1 (j := 1) rfl rfl (by omega) rfl) ?_;refine yO 16 rfl rfl (by kernel_rfl) (by kernel_rfl) (by kernel_rfl) rfl rfl rfl rfl Ent.sel (by first|exact xL rfl) ?_)
          repeat' (first|refine JM_fin rfl ?_|refine JM_two rfl ?_ ?_|refine wW rfl ?_|refine xT rfl rfl (by first|exact xN|exact zX uV|exact zX (fun _ _ _ _ h => .inr (yD _ _ _ _ h))) (yP rfl rfl rfl (by decide) rfl (fun r => ⟨by first|exact (fun _ => Ent.sel),?_⟩))|refine xT rfl rfl (by first|exact xN|exact zX uV|exact zX (fun _ _ _ _ h => .inr (yD _ _ _ _ h))) (zN rfl hb rfl ⟨by first|exact (fun _ => Ent.sel),?_⟩)|refine xT rfl rfl (by first|exact zX uV|exact zX (fun _ _ _ _ h => .inr (yD _ _ _ _ h))) (JOq (JQ_strB (bs := [UInt8.ofNat 2]) rfl rfl (by8_one (by omega)).symm) rfl ⟨by first|exact (fun h => absurd h (by decide))|exact (fun _ => Ent.sel),?_⟩)|refine xT rfl rfl (by first|exact zX uV|exact zX (fun _ _ _ _ h => .inr (yD _ _ _ _ h))) (JOq (uQ rfl rfl (by simp only [List.length_append,List.length_singleton] at *;omega)) rfl ⟨by first|exact (fun _ => Ent.sel),?_⟩)|refine xT rfl rfl (by first|exact zX uV) (zC rfl rfl ⟨by first|exact (fun h => absurd h (by decide)),?_⟩))
          all_goals exact ⟨by (repeat (first|exact zM _|refine zI rfl ?_)),rfl,Ent.sel⟩
        repeat (first|(first|refine zB ?_|refine zE ?_)|(first|((first|refine zA rfl ?_);first|refine yZ (b := 1) rfl rfl (by omega) rfl ?_|refine zD rfl rfl ?_|refine zC rfl rfl ?_)))
        refine ⟨⟨2,by omega,fun _ => l1,fun _ => hx,fun h => absurd (show 2 < 2 from h) (by decide)⟩,by simp,?_,rfl,Ent.sel⟩
        dsimp only
        rw [show accL x y z 2 = ((accL x y z 1 ++ [UInt8.ofNat 2]) ++ wY y.length) ++ y from by simp [accL,vP]]
        (repeat (first|exact zM _|refine zI rfl ?_))
      · repeat (first|(first|refine zB ?_|refine zE ?_|refine zG ?_|refine zK ?_|refine zP ?_|refine zL rfl ?_|refine zV ?_)|(first|((first|refine zA rfl ?_);first|refine JOq (yR 1 (j := 1) rfl rfl (by omega) rfl) rfl ?_|refine JOq (JQ_lenB rfl) rfl ?_|refine JOq (yH rfl rfl (by omega)) rfl ?_|refine JOq (JQ_gtrT rfl rfl (by omega)) rfl ?_|refine zD rfl rfl ?_|refine zC rfl rfl ?_|refine zH rfl rfl ?_)))
        rw [show joinA x y z = ([],4) from by unfold joinA;rw [if_neg (by omega)]]
        exact ret_twoV rfl rfl rfl .nil
    | 2,_ =>
      have l1 := q1 (by decide)
      have l2 := q2 (by decide)
      have hal := acc_len x y z 2 hxb hyb hzb
      by_cases hx : z.length ≤ 65536
      · have hb := bytes_c z.length (by omega)
        repeat (first|(first|refine zB ?_|refine zE ?_|refine zG ?_|refine zK ?_|refine zP ?_|refine zL rfl ?_|refine zJ rfl ?_)|(first|((first|refine zA rfl ?_);first|refine JOq (yR 2 (j := 2) rfl rfl (by omega) rfl) rfl ?_|refine JOq (JQ_lenB rfl) rfl ?_|refine JOq (yH rfl rfl (by omega)) rfl ?_|refine JOq (JQ_gtrF rfl rfl (by omega)) rfl ?_|refine zD rfl rfl ?_|refine zH rfl rfl ?_)))
        refine J_cut [(1,ptr n1),(2,.string ⟨#[]⟩),(3,.int .i64 0),(4,str (((accL x y z 2 ++ [UInt8.ofNat 3]) ++ wY z.length) ++ z)),(5,.int .i64 ((2 : Nat) : Int))] [pt n1 (.cells #[str x,str y,str z] 41 (0,0))] ?_ ?_
        · refine J_calm ?_
          refine tM 18 [pt n1 (.cells #[str x,str y,str z] 41 (0,0))] Ent.sel ?_
          (refine yO 0 rfl rfl (by kernel_rfl) (by kernel_rfl) (by kernel_rfl) rfl rfl rfl rfl Ent.sel (by first|exact xE rfl) ?_;refine yO 1 rfl rfl (by kernel_rfl) (by kernel_rfl) (by kernel_rfl) rfl rfl rfl rfl Ent.sel (by first|exact xE rfl) ?_;refine yO 2 rfl rfl (by kernel_rfl) (by kernel_rfl) (by kernel_rfl) rfl rfl rfl rfl Ent.sel (by first|exact JQ_addF (a := 2) (b := 1) rfl rfl (vF (by omega))) ?_;refine yO 3 rfl rfl (by kernel_rfl) (by kernel_rfl) (by kernel_rfl) rfl rfl rfl rfl Ent.sel (by first|exact yX (a := 2 + 1) rfl (wrap_u8 (by omega))) ?_;refine yO 7 rfl rfl (by kernel_rfl) (by kernel_rfl) (by kernel_rfl) rfl rfl rfl rfl Ent.sel (by first|exact xE rfl) ?_;refine yO 8 rfl rfl (by kernel_rfl) (by kernel_rfl) (by kernel_rfl) rfl rfl rfl rfl Ent.sel (by first|exact yR 2 (j := 2) rfl rfl (by omega) rfl) ?_;refine yO 9 rfl rfl (by kernel_rfl) (by kernel_rfl) (by kernel_rfl) rfl rfl rfl rfl Ent.sel (by first|exact xL rfl) ?_;refine yO 10 rfl rfl (by kernel_rfl) (by kernel_rfl) (by kernel_rfl) rfl rfl rfl rfl Ent.sel (by first|exact JQ_lenB rfl) ?_;refine yO 11 rfl rfl (by kernel_rfl) (by kernel_rfl) (by kernel_rfl) rfl rfl rfl rfl Ent.sel (by first|exact yX (a := z.length) rfl (xX (by omega))) ?_;refine yO 14 rfl rfl (by kernel_rfl) (by kernel_rfl) (by kernel_rfl) rfl rfl rfl rfl Ent.sel (by first|exact xE rfl) ?_;refine yO 15 rfl rfl (by kernel_rfl) (by kernel_rfl) (by kernel_rfl) rfl rfl rfl rfl Ent.sel (by first|exact yR 2 (j := 2) rfl rfl (by omega) rfl) ?_;refine yO 16 rfl rfl (by kernel_rfl) (by kernel_rfl) (by kernel_rfl) rfl rfl rfl rfl Ent.sel (by first|exact xL rfl) ?_)
          repeat' (first|refine JM_fin rfl ?_|refine JM_two rfl ?_ ?_|refine wW rfl ?_|refine xT rfl rfl (by first|exact xN|exact zX uV|exact zX (fun _ _ _ _ h => .inr (yD _ _ _ _ h))) (yP rfl rfl rfl (by decide) rfl (fun r => ⟨by first|exact (fun _ => Ent.sel),?_⟩))|refine xT rfl rfl (by first|exact xN|exact zX uV|exact zX (fun _ _ _ _ h => .inr (yD _ _ _ _ h))) (zN rfl hb rfl ⟨by first|exact (fun _ => Ent.sel),?_⟩)|refine xT rfl rfl (by first|exact zX uV|exact zX (fun _ _ _ _ h => .inr (yD _ _ _ _ h))) (JOq (JQ_strB (bs := [UInt8.ofNat 3]) rfl rfl (by8_one (by omega)).symm) rfl ⟨by first|exact (fun h => absurd h (by decide))|exact (fun _ => Ent.sel),?_⟩)|refine xT rfl rfl (by first|exact zX uV|exact zX (fun _ _ _ _ h => .inr (yD _ _ _ _ h))) (JOq (uQ rfl rfl (by simp only [List.length_append,List.length_singleton] at *;omega)) rfl ⟨by first|exact (fun _ => Ent.sel),?_⟩)|refine xT rfl rfl (by first|exact zX uV) (zC rfl rfl ⟨by first|exact (fun h => absurd h (by decide)),?_⟩))
          all_goals exact ⟨by (repeat (first|exact zM _|refine zI rfl ?_)),rfl,Ent.sel⟩
        repeat (first|(first|refine zB ?_|refine zE ?_)|(first|((first|refine zA rfl ?_);first|refine yZ (b := 1) rfl rfl (by omega) rfl ?_|refine zD rfl rfl ?_|refine zC rfl rfl ?_)))
        refine ⟨⟨3,by omega,fun _ => l1,fun _ => l2,fun _ => hx⟩,by simp,?_,rfl,Ent.sel⟩
        dsimp only
        rw [show accL x y z 3 = ((accL x y z 2 ++ [UInt8.ofNat 3]) ++ wY z.length) ++ z from by simp [accL,vP]]
        (repeat (first|exact zM _|refine zI rfl ?_))
      · repeat (first|(first|refine zB ?_|refine zE ?_|refine zG ?_|refine zK ?_|refine zP ?_|refine zL rfl ?_|refine zV ?_)|(first|((first|refine zA rfl ?_);first|refine JOq (yR 2 (j := 2) rfl rfl (by omega) rfl) rfl ?_|refine JOq (JQ_lenB rfl) rfl ?_|refine JOq (yH rfl rfl (by omega)) rfl ?_|refine JOq (JQ_gtrT rfl rfl (by omega)) rfl ?_|refine zD rfl rfl ?_|refine zC rfl rfl ?_|refine zH rfl rfl ?_)))
        rw [show joinA x y z = ([],4) from by unfold joinA;rw [if_neg (by omega)]]
        exact ret_twoV rfl rfl rfl .nil
    | 3,_ =>
      have l1 := q1 (by decide)
      have l2 := q2 (by decide)
      have l3 := q3 (by decide)
      repeat (first|(first|refine zB ?_|refine zE ?_|refine zG ?_|refine zJ rfl ?_|refine xA ?_|refine zV ?_)|(first|((first|refine zA rfl ?_);first|refine JOq (yS rfl rfl (by omega)) rfl ?_|refine zD rfl rfl ?_|refine zC rfl rfl ?_)))
      rw [show joinA x y z = (tB x y z,0) from by unfold joinA;rw [if_pos (by omega)],show tB x y z = accL x y z 3 from by simp [tB,accL]]
      exact ret_twoV rfl rfl rfl .nil
end Go.Proofs.YtickblndgihoeaaGreatDoor
