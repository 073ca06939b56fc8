/- Layer 3: the document joins. -/
import Derived.Test.YtickblndgihoeaaGreatDoorM28
import Derived.Test.YtickblndgihoeaaGreatDoorM19
import Derived.Test.YtickblndgihoeaaGreatDoorM5
set_option linter.unusedSimpArgs false
namespace Go.Proofs.YtickblndgihoeaaGreatDoor
open Go Go.Sp
def accL (x y z : List UInt8) (k : Nat) : List UInt8 := if k = 0 then headL else if k = 1 then headL ++ secL 1 x else if k = 2 then (headL ++ secL 1 x) ++ secL 2 y else ((headL ++ secL 1 x) ++ secL 2 y) ++ secL 3 z
theorem acc_len (x y z : List UInt8) (k : Nat) (hx : x.length ≤ 200000) (hy : y.length ≤ 200000) (hz : z.length ≤ 200000) : (accL x y z k).length ≤ 700000 := by
  have g1 := enc_len10 (n := x.length) (by omega)
  have g2 := enc_len10 (n := y.length) (by omega)
  have g3 := enc_len10 (n := z.length) (by omega)
  unfold accL
  split
  · simp [headL]
  · split
    · simp [headL, secL]; omega
    · split
      · simp [headL, secL]; omega
      · simp [headL, secL]; omega
attribute [local irreducible] callFunc Go.method J JL JO JR JR1 JRl Ct JG JM JM1 JQ JQ0 JS CtD LeavesQ WrB by8 uA ibits stage Fact accL
set_option maxRecDepth 8000 in
set_option maxHeartbeats 8000000 in
theorem djoin_c (x y z : List UInt8) (hxb : x.length ≤ 200000) (hyb : y.length ≤ 200000) (hzb : z.length ≤ 200000) :
    Ct Tryz.prog 29 #[.agg #[str x, str y, str z]] [] (RetV (.tuple #[str (joinA x y z).1, .int .i64 (joinA x y z).2]) []) := by
  have g1 := enc_len10 (n := x.length) (by omega)
  have g2 := enc_len10 (n := y.length) (by omega)
  have g3 := enc_len10 (n := z.length) (by omega)
  refine fn_ret (vs := [_]) Tryz.func29 rfl Tryz.ntmps29 (by simp) ?_
  repeat (first | (first | refine J_region ?_ | refine JL_nil ?_ | refine J_seq ?_ | refine J_block ?_) | (first | ((first | refine JL_step rfl ?_); first | refine JO_assign rfl rfl ?_ | refine JO_boxA rfl rfl (fun r => ?_))))
  revert r
  intro n1
  refine J_loop (β := { k : Nat // k ≤ 3 ∧ (0 < k → x.length ≤ 65536) ∧ (1 < k → y.length ≤ 65536) ∧ (2 < k → z.length ≤ 65536) }) (fun k => [(1, ptr n1), (2, .string ⟨#[]⟩), (3, .int .i64 0), (4, str (accL x y z k.1)), (5, .int .i64 (k.1 : Int))]) (fun _ => [])
    (fun _ => [pt n1 (.cells #[str x, str y, str z] 41 (0, 0))]) (fun k => 3 - k.1) ⟨0, by simp⟩ ?_ rfl Ent.sel ?_
  · rw [show accL x y z 0 = headL from by unfold accL; rfl]
    (repeat (first | exact sub_nil _ | refine sub_cons rfl ?_))
  rintro ⟨k, hk, q1, q2, q3⟩
  dsimp only
  match k, hk with
    | 0, _ =>
      have hal := acc_len x y z 0 hxb hyb hzb
      by_cases hx : x.length ≤ 65536
      · have hb := bytes_c x.length (by omega)
        repeat (first | (first | refine J_region ?_ | refine JL_nil ?_ | refine J_seq ?_ | refine J_block ?_ | refine J_skip ?_ | refine J_condT rfl ?_ | refine J_condF rfl ?_) | (first | ((first | refine JL_step rfl ?_); first | refine JO_q (by simp) (JQ_indexPK 0 (j := 0) rfl rfl (by omega) rfl) rfl ?_ | refine JO_q (by simp) (JQ_lenB rfl) rfl ?_ | refine JO_q (by simp) (JQ_lssT rfl rfl (by omega)) rfl ?_ | refine JO_q (by simp) (JQ_gtrF rfl rfl (by omega)) rfl ?_ | refine JO_move rfl rfl ?_ | refine JO_load rfl rfl ?_)))
        refine J_cut [(1, ptr n1), (2, .string ⟨#[]⟩), (3, .int .i64 0), (4, str (((accL x y z 0 ++ [UInt8.ofNat 1]) ++ encU x.length) ++ x)), (5, .int .i64 ((0 : Nat) : Int))] [pt n1 (.cells #[str x, str y, str z] 41 (0, 0))] ?_ ?_
        · refine J_calm ?_
          refine J_regionM 18 [pt n1 (.cells #[str x, str y, str z] 41 (0, 0))] Ent.sel ?_
          (refine JM_take 0 rfl rfl (by kernel_rfl) (by kernel_rfl) (by kernel_rfl) rfl rfl rfl rfl Ent.sel (by first | exact JQ_move rfl) ?_; refine JM_take 1 rfl rfl (by kernel_rfl) (by kernel_rfl) (by kernel_rfl) rfl rfl rfl rfl Ent.sel (by first | exact JQ_move rfl) ?_; refine JM_take 2 rfl rfl (by kernel_rfl) (by kernel_rfl) (by kernel_rfl) rfl rfl rfl rfl Ent.sel (by first | exact JQ_addF (a := 0) (b := 1) rfl rfl (wrap_i64n (by omega))) ?_; refine JM_take 3 rfl rfl (by kernel_rfl) (by kernel_rfl) (by kernel_rfl) rfl rfl rfl rfl Ent.sel (by first | exact JQ_convF (a := 0 + 1) rfl (wrap_u8 (by omega))) ?_; refine JM_take 7 rfl rfl (by kernel_rfl) (by kernel_rfl) (by kernel_rfl) rfl rfl rfl rfl Ent.sel (by first | exact JQ_move rfl) ?_; refine JM_take 8 rfl rfl (by kernel_rfl) (by kernel_rfl) (by kernel_rfl) rfl rfl rfl rfl Ent.sel (by first | exact JQ_indexPK 0 (j := 0) rfl rfl (by omega) rfl) ?_; refine JM_take 9 rfl rfl (by kernel_rfl) (by kernel_rfl) (by kernel_rfl) rfl rfl rfl rfl Ent.sel (by first | exact JQ_loadB rfl) ?_; refine JM_take 10 rfl rfl (by kernel_rfl) (by kernel_rfl) (by kernel_rfl) rfl rfl rfl rfl Ent.sel (by first | exact JQ_lenB rfl) ?_; refine JM_take 11 rfl rfl (by kernel_rfl) (by kernel_rfl) (by kernel_rfl) rfl rfl rfl rfl Ent.sel (by first | exact JQ_convF (a := x.length) rfl (wrap_u64 (by omega))) ?_; refine JM_take 14 rfl rfl (by kernel_rfl) (by kernel_rfl) (by kernel_rfl) rfl rfl rfl rfl Ent.sel (by first | exact JQ_move rfl) ?_; refine JM_take 15 rfl rfl (by kernel_rfl) (by kernel_rfl) (by kernel_rfl) rfl rfl rfl rfl Ent.sel (by first | exact JQ_indexPK 0 (j := 0) rfl rfl (by omega) rfl) ?_; refine JM_take 16 rfl rfl (by kernel_rfl) (by kernel_rfl) (by kernel_rfl) rfl rfl rfl rfl Ent.sel (by first | exact JQ_loadB rfl) ?_)
          repeat' (first | refine JM_fin rfl ?_ | refine JM_two rfl ?_ ?_ | refine JM_only rfl ?_ | refine JM1_jo rfl rfl (by first | exact tame2_call | exact tame_plain plain_assign | exact tame_plain (fun _ _ _ _ h => .inr (run_then_value _ _ _ _ h))) (JO_buildSlice rfl rfl rfl (by decide) rfl (fun r => ⟨by first | exact (fun _ => Ent.sel), ?_⟩)) | refine JM1_jo rfl rfl (by first | exact tame2_call | exact tame_plain plain_assign | exact tame_plain (fun _ _ _ _ h => .inr (run_then_value _ _ _ _ h))) (JO_callV' rfl hb rfl ⟨by first | exact (fun _ => Ent.sel), ?_⟩) | refine JM1_jo rfl rfl (by first | exact tame_plain plain_assign | exact tame_plain (fun _ _ _ _ h => .inr (run_then_value _ _ _ _ h))) (JO_q (by simp) (JQ_strB (bs := [UInt8.ofNat 1]) rfl rfl (by8_one (by omega)).symm) rfl ⟨by first | exact (fun h => absurd h (by decide)) | exact (fun _ => Ent.sel), ?_⟩) | refine JM1_jo rfl rfl (by first | exact tame_plain plain_assign | exact tame_plain (fun _ _ _ _ h => .inr (run_then_value _ _ _ _ h))) (JO_q (by simp) (JQ_addS rfl rfl (by simp only [List.length_append, List.length_singleton] at *; omega)) rfl ⟨by first | exact (fun _ => Ent.sel), ?_⟩) | refine JM1_jo rfl rfl (by first | exact tame_plain plain_assign) (JO_assign rfl rfl ⟨by first | exact (fun h => absurd h (by decide)), ?_⟩))
          all_goals exact ⟨by (repeat (first | exact sub_nil _ | refine sub_cons rfl ?_)), rfl, Ent.sel⟩
        repeat (first | (first | refine J_region ?_ | refine JL_nil ?_) | (first | ((first | refine JL_step rfl ?_); first | refine JO_addN (b := 1) rfl rfl (by omega) rfl ?_ | refine JO_move rfl rfl ?_ | refine JO_assign rfl rfl ?_)))
        refine ⟨⟨1, by omega, fun _ => hx, fun h => absurd (show 1 < 1 from h) (by decide), fun h => absurd (show 2 < 1 from h) (by decide)⟩, by simp, ?_, rfl, Ent.sel⟩
        dsimp only
        rw [show accL x y z 1 = ((accL x y z 0 ++ [UInt8.ofNat 1]) ++ encU x.length) ++ x from by simp [accL, secL]]
        (repeat (first | exact sub_nil _ | refine sub_cons rfl ?_))
      · repeat (first | (first | refine J_region ?_ | refine JL_nil ?_ | refine J_seq ?_ | refine J_block ?_ | refine J_skip ?_ | refine J_condT rfl ?_ | refine J_ret ?_) | (first | ((first | refine JL_step rfl ?_); first | refine JO_q (by simp) (JQ_indexPK 0 (j := 0) rfl rfl (by omega) rfl) rfl ?_ | refine JO_q (by simp) (JQ_lenB rfl) rfl ?_ | refine JO_q (by simp) (JQ_lssT rfl rfl (by omega)) rfl ?_ | refine JO_q (by simp) (JQ_gtrT rfl rfl (by omega)) rfl ?_ | refine JO_move rfl rfl ?_ | refine JO_assign rfl rfl ?_ | refine JO_load rfl rfl ?_)))
        rw [show joinA x y z = ([], 4) from by unfold joinA; rw [if_neg (by omega)]]
        exact ret_twoV rfl rfl rfl .nil
    | 1, _ =>
      have l1 := q1 (by decide)
      have hal := acc_len x y z 1 hxb hyb hzb
      by_cases hx : y.length ≤ 65536
      · have hb := bytes_c y.length (by omega)
        repeat (first | (first | refine J_region ?_ | refine JL_nil ?_ | refine J_seq ?_ | refine J_block ?_ | refine J_skip ?_ | refine J_condT rfl ?_ | refine J_condF rfl ?_) | (first | ((first | refine JL_step rfl ?_); first | refine JO_q (by simp) (JQ_indexPK 1 (j := 1) rfl rfl (by omega) rfl) rfl ?_ | refine JO_q (by simp) (JQ_lenB rfl) rfl ?_ | refine JO_q (by simp) (JQ_lssT rfl rfl (by omega)) rfl ?_ | refine JO_q (by simp) (JQ_gtrF rfl rfl (by omega)) rfl ?_ | refine JO_move rfl rfl ?_ | refine JO_load rfl rfl ?_)))
        refine J_cut [(1, ptr n1), (2, .string ⟨#[]⟩), (3, .int .i64 0), (4, str (((accL x y z 1 ++ [UInt8.ofNat 2]) ++ encU y.length) ++ y)), (5, .int .i64 ((1 : Nat) : Int))] [pt n1 (.cells #[str x, str y, str z] 41 (0, 0))] ?_ ?_
        · refine J_calm ?_
          refine J_regionM 18 [pt n1 (.cells #[str x, str y, str z] 41 (0, 0))] Ent.sel ?_
          (refine JM_take 0 rfl rfl (by kernel_rfl) (by kernel_rfl) (by kernel_rfl) rfl rfl rfl rfl Ent.sel (by first | exact JQ_move rfl) ?_; refine JM_take 1 rfl rfl (by kernel_rfl) (by kernel_rfl) (by kernel_rfl) rfl rfl rfl rfl Ent.sel (by first | exact JQ_move rfl) ?_; refine JM_take 2 rfl rfl (by kernel_rfl) (by kernel_rfl) (by kernel_rfl) rfl rfl rfl rfl Ent.sel (by first | exact JQ_addF (a := 1) (b := 1) rfl rfl (wrap_i64n (by omega))) ?_; refine JM_take 3 rfl rfl (by kernel_rfl) (by kernel_rfl) (by kernel_rfl) rfl rfl rfl rfl Ent.sel (by first | exact JQ_convF (a := 1 + 1) rfl (wrap_u8 (by omega))) ?_; refine JM_take 7 rfl rfl (by kernel_rfl) (by kernel_rfl) (by kernel_rfl) rfl rfl rfl rfl Ent.sel (by first | exact JQ_move rfl) ?_; refine JM_take 8 rfl rfl (by kernel_rfl) (by kernel_rfl) (by kernel_rfl) rfl rfl rfl rfl Ent.sel (by first | exact JQ_indexPK 1 (j := 1) rfl rfl (by omega) rfl) ?_; refine JM_take 9 rfl rfl (by kernel_rfl) (by kernel_rfl) (by kernel_rfl) rfl rfl rfl rfl Ent.sel (by first | exact JQ_loadB rfl) ?_; refine JM_take 10 rfl rfl (by kernel_rfl) (by kernel_rfl) (by kernel_rfl) rfl rfl rfl rfl Ent.sel (by first | exact JQ_lenB rfl) ?_; refine JM_take 11 rfl rfl (by kernel_rfl) (by kernel_rfl) (by kernel_rfl) rfl rfl rfl rfl Ent.sel (by first | exact JQ_convF (a := y.length) rfl (wrap_u64 (by omega))) ?_; refine JM_take 14 rfl rfl (by kernel_rfl) (by kernel_rfl) (by kernel_rfl) rfl rfl rfl rfl Ent.sel (by first | exact JQ_move rfl) ?_; refine JM_take 15 rfl rfl (by kernel_rfl) (by kernel_rfl) (by kernel_rfl) rfl rfl rfl rfl Ent.sel (by first | exact JQ_indexPK 1 (j := 1) rfl rfl (by omega) rfl) ?_; refine JM_take 16 rfl rfl (by kernel_rfl) (by kernel_rfl) (by kernel_rfl) rfl rfl rfl rfl Ent.sel (by first | exact JQ_loadB rfl) ?_)
          repeat' (first | refine JM_fin rfl ?_ | refine JM_two rfl ?_ ?_ | refine JM_only rfl ?_ | refine JM1_jo rfl rfl (by first | exact tame2_call | exact tame_plain plain_assign | exact tame_plain (fun _ _ _ _ h => .inr (run_then_value _ _ _ _ h))) (JO_buildSlice rfl rfl rfl (by decide) rfl (fun r => ⟨by first | exact (fun _ => Ent.sel), ?_⟩)) | refine JM1_jo rfl rfl (by first | exact tame2_call | exact tame_plain plain_assign | exact tame_plain (fun _ _ _ _ h => .inr (run_then_value _ _ _ _ h))) (JO_callV' rfl hb rfl ⟨by first | exact (fun _ => Ent.sel), ?_⟩) | refine JM1_jo rfl rfl (by first | exact tame_plain plain_assign | exact tame_plain (fun _ _ _ _ h => .inr (run_then_value _ _ _ _ h))) (JO_q (by simp) (JQ_strB (bs := [UInt8.ofNat 2]) rfl rfl (by8_one (by omega)).symm) rfl ⟨by first | exact (fun h => absurd h (by decide)) | exact (fun _ => Ent.sel), ?_⟩) | refine JM1_jo rfl rfl (by first | exact tame_plain plain_assign | exact tame_plain (fun _ _ _ _ h => .inr (run_then_value _ _ _ _ h))) (JO_q (by simp) (JQ_addS rfl rfl (by simp only [List.length_append, List.length_singleton] at *; omega)) rfl ⟨by first | exact (fun _ => Ent.sel), ?_⟩) | refine JM1_jo rfl rfl (by first | exact tame_plain plain_assign) (JO_assign rfl rfl ⟨by first | exact (fun h => absurd h (by decide)), ?_⟩))
          all_goals exact ⟨by (repeat (first | exact sub_nil _ | refine sub_cons rfl ?_)), rfl, Ent.sel⟩
        repeat (first | (first | refine J_region ?_ | refine JL_nil ?_) | (first | ((first | refine JL_step rfl ?_); first | refine JO_addN (b := 1) rfl rfl (by omega) rfl ?_ | refine JO_move rfl rfl ?_ | refine JO_assign rfl rfl ?_)))
        refine ⟨⟨2, by omega, fun _ => l1, fun _ => hx, fun h => absurd (show 2 < 2 from h) (by decide)⟩, by simp, ?_, rfl, Ent.sel⟩
        dsimp only
        rw [show accL x y z 2 = ((accL x y z 1 ++ [UInt8.ofNat 2]) ++ encU y.length) ++ y from by simp [accL, secL]]
        (repeat (first | exact sub_nil _ | refine sub_cons rfl ?_))
      · repeat (first | (first | refine J_region ?_ | refine JL_nil ?_ | refine J_seq ?_ | refine J_block ?_ | refine J_skip ?_ | refine J_condT rfl ?_ | refine J_ret ?_) | (first | ((first | refine JL_step rfl ?_); first | refine JO_q (by simp) (JQ_indexPK 1 (j := 1) rfl rfl (by omega) rfl) rfl ?_ | refine JO_q (by simp) (JQ_lenB rfl) rfl ?_ | refine JO_q (by simp) (JQ_lssT rfl rfl (by omega)) rfl ?_ | refine JO_q (by simp) (JQ_gtrT rfl rfl (by omega)) rfl ?_ | refine JO_move rfl rfl ?_ | refine JO_assign rfl rfl ?_ | refine JO_load rfl rfl ?_)))
        rw [show joinA x y z = ([], 4) from by unfold joinA; rw [if_neg (by omega)]]
        exact ret_twoV rfl rfl rfl .nil
    | 2, _ =>
      have l1 := q1 (by decide)
      have l2 := q2 (by decide)
      have hal := acc_len x y z 2 hxb hyb hzb
      by_cases hx : z.length ≤ 65536
      · have hb := bytes_c z.length (by omega)
        repeat (first | (first | refine J_region ?_ | refine JL_nil ?_ | refine J_seq ?_ | refine J_block ?_ | refine J_skip ?_ | refine J_condT rfl ?_ | refine J_condF rfl ?_) | (first | ((first | refine JL_step rfl ?_); first | refine JO_q (by simp) (JQ_indexPK 2 (j := 2) rfl rfl (by omega) rfl) rfl ?_ | refine JO_q (by simp) (JQ_lenB rfl) rfl ?_ | refine JO_q (by simp) (JQ_lssT rfl rfl (by omega)) rfl ?_ | refine JO_q (by simp) (JQ_gtrF rfl rfl (by omega)) rfl ?_ | refine JO_move rfl rfl ?_ | refine JO_load rfl rfl ?_)))
        refine J_cut [(1, ptr n1), (2, .string ⟨#[]⟩), (3, .int .i64 0), (4, str (((accL x y z 2 ++ [UInt8.ofNat 3]) ++ encU z.length) ++ z)), (5, .int .i64 ((2 : Nat) : Int))] [pt n1 (.cells #[str x, str y, str z] 41 (0, 0))] ?_ ?_
        · refine J_calm ?_
          refine J_regionM 18 [pt n1 (.cells #[str x, str y, str z] 41 (0, 0))] Ent.sel ?_
          (refine JM_take 0 rfl rfl (by kernel_rfl) (by kernel_rfl) (by kernel_rfl) rfl rfl rfl rfl Ent.sel (by first | exact JQ_move rfl) ?_; refine JM_take 1 rfl rfl (by kernel_rfl) (by kernel_rfl) (by kernel_rfl) rfl rfl rfl rfl Ent.sel (by first | exact JQ_move rfl) ?_; refine JM_take 2 rfl rfl (by kernel_rfl) (by kernel_rfl) (by kernel_rfl) rfl rfl rfl rfl Ent.sel (by first | exact JQ_addF (a := 2) (b := 1) rfl rfl (wrap_i64n (by omega))) ?_; refine JM_take 3 rfl rfl (by kernel_rfl) (by kernel_rfl) (by kernel_rfl) rfl rfl rfl rfl Ent.sel (by first | exact JQ_convF (a := 2 + 1) rfl (wrap_u8 (by omega))) ?_; refine JM_take 7 rfl rfl (by kernel_rfl) (by kernel_rfl) (by kernel_rfl) rfl rfl rfl rfl Ent.sel (by first | exact JQ_move rfl) ?_; refine JM_take 8 rfl rfl (by kernel_rfl) (by kernel_rfl) (by kernel_rfl) rfl rfl rfl rfl Ent.sel (by first | exact JQ_indexPK 2 (j := 2) rfl rfl (by omega) rfl) ?_; refine JM_take 9 rfl rfl (by kernel_rfl) (by kernel_rfl) (by kernel_rfl) rfl rfl rfl rfl Ent.sel (by first | exact JQ_loadB rfl) ?_; refine JM_take 10 rfl rfl (by kernel_rfl) (by kernel_rfl) (by kernel_rfl) rfl rfl rfl rfl Ent.sel (by first | exact JQ_lenB rfl) ?_; refine JM_take 11 rfl rfl (by kernel_rfl) (by kernel_rfl) (by kernel_rfl) rfl rfl rfl rfl Ent.sel (by first | exact JQ_convF (a := z.length) rfl (wrap_u64 (by omega))) ?_; refine JM_take 14 rfl rfl (by kernel_rfl) (by kernel_rfl) (by kernel_rfl) rfl rfl rfl rfl Ent.sel (by first | exact JQ_move rfl) ?_; refine JM_take 15 rfl rfl (by kernel_rfl) (by kernel_rfl) (by kernel_rfl) rfl rfl rfl rfl Ent.sel (by first | exact JQ_indexPK 2 (j := 2) rfl rfl (by omega) rfl) ?_; refine JM_take 16 rfl rfl (by kernel_rfl) (by kernel_rfl) (by kernel_rfl) rfl rfl rfl rfl Ent.sel (by first | exact JQ_loadB rfl) ?_)
          repeat' (first | refine JM_fin rfl ?_ | refine JM_two rfl ?_ ?_ | refine JM_only rfl ?_ | refine JM1_jo rfl rfl (by first | exact tame2_call | exact tame_plain plain_assign | exact tame_plain (fun _ _ _ _ h => .inr (run_then_value _ _ _ _ h))) (JO_buildSlice rfl rfl rfl (by decide) rfl (fun r => ⟨by first | exact (fun _ => Ent.sel), ?_⟩)) | refine JM1_jo rfl rfl (by first | exact tame2_call | exact tame_plain plain_assign | exact tame_plain (fun _ _ _ _ h => .inr (run_then_value _ _ _ _ h))) (JO_callV' rfl hb rfl ⟨by first | exact (fun _ => Ent.sel), ?_⟩) | refine JM1_jo rfl rfl (by first | exact tame_plain plain_assign | exact tame_plain (fun _ _ _ _ h => .inr (run_then_value _ _ _ _ h))) (JO_q (by simp) (JQ_strB (bs := [UInt8.ofNat 3]) rfl rfl (by8_one (by omega)).symm) rfl ⟨by first | exact (fun h => absurd h (by decide)) | exact (fun _ => Ent.sel), ?_⟩) | refine JM1_jo rfl rfl (by first | exact tame_plain plain_assign | exact tame_plain (fun _ _ _ _ h => .inr (run_then_value _ _ _ _ h))) (JO_q (by simp) (JQ_addS rfl rfl (by simp only [List.length_append, List.length_singleton] at *; omega)) rfl ⟨by first | exact (fun _ => Ent.sel), ?_⟩) | refine JM1_jo rfl rfl (by first | exact tame_plain plain_assign) (JO_assign rfl rfl ⟨by first | exact (fun h => absurd h (by decide)), ?_⟩))
          all_goals exact ⟨by (repeat (first | exact sub_nil _ | refine sub_cons rfl ?_)), rfl, Ent.sel⟩
        repeat (first | (first | refine J_region ?_ | refine JL_nil ?_) | (first | ((first | refine JL_step rfl ?_); first | refine JO_addN (b := 1) rfl rfl (by omega) rfl ?_ | refine JO_move rfl rfl ?_ | refine JO_assign rfl rfl ?_)))
        refine ⟨⟨3, by omega, fun _ => l1, fun _ => l2, fun _ => hx⟩, by simp, ?_, rfl, Ent.sel⟩
        dsimp only
        rw [show accL x y z 3 = ((accL x y z 2 ++ [UInt8.ofNat 3]) ++ encU z.length) ++ z from by simp [accL, secL]]
        (repeat (first | exact sub_nil _ | refine sub_cons rfl ?_))
      · repeat (first | (first | refine J_region ?_ | refine JL_nil ?_ | refine J_seq ?_ | refine J_block ?_ | refine J_skip ?_ | refine J_condT rfl ?_ | refine J_ret ?_) | (first | ((first | refine JL_step rfl ?_); first | refine JO_q (by simp) (JQ_indexPK 2 (j := 2) rfl rfl (by omega) rfl) rfl ?_ | refine JO_q (by simp) (JQ_lenB rfl) rfl ?_ | refine JO_q (by simp) (JQ_lssT rfl rfl (by omega)) rfl ?_ | refine JO_q (by simp) (JQ_gtrT rfl rfl (by omega)) rfl ?_ | refine JO_move rfl rfl ?_ | refine JO_assign rfl rfl ?_ | refine JO_load rfl rfl ?_)))
        rw [show joinA x y z = ([], 4) from by unfold joinA; rw [if_neg (by omega)]]
        exact ret_twoV rfl rfl rfl .nil
    | 3, _ =>
      have l1 := q1 (by decide)
      have l2 := q2 (by decide)
      have l3 := q3 (by decide)
      repeat (first | (first | refine J_region ?_ | refine JL_nil ?_ | refine J_seq ?_ | refine J_condF rfl ?_ | refine J_exit ?_ | refine J_ret ?_) | (first | ((first | refine JL_step rfl ?_); first | refine JO_q (by simp) (JQ_lssF rfl rfl (by omega)) rfl ?_ | refine JO_move rfl rfl ?_ | refine JO_assign rfl rfl ?_)))
      rw [show joinA x y z = (joinL x y z, 0) from by unfold joinA; rw [if_pos (by omega)], show joinL x y z = accL x y z 3 from by simp [joinL, accL]]
      exact ret_twoV rfl rfl rfl .nil
end Go.Proofs.YtickblndgihoeaaGreatDoor
