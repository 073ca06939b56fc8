/- Layer 9: what the laws use. -/
import Derived.Test.YtfelcdbhlahehaaDoorM8
import Derived.Test.YtfelcdbhlahehaaDoorM11
import Derived.Test.YtfelcdbhlahehaaDoorM4
namespace Go.Proofs.YtfelcdbhlahehaaDoor
open Go Go.Sp Go.Stop
attribute [local irreducible] callFunc Go.method J JL JO Ct JG JM JW JW1 JQ JQ0 JS CtD LeavesQ ints WrB by8 chkA fitsP bytesL
set_option maxHeartbeats 2000000 in
theorem same_c (x : Ins) (p1 p2 : Option Addr) (k1 k2 : Nat) (hm : x.l.length ≤ 1000000) : Ct Tryd.prog 26 #[.agg (insC x (.slice p1 x.l.length k1)).toArray, .agg (insC x (.slice p2 x.l.length k2)).toArray] [Vw 1 (.slice p1 x.l.length k1) x.l.length (ints x.l), Vw 1 (.slice p2 x.l.length k2) x.l.length (ints x.l)] (RetV (.bool true) []) := by
  refine fn_ret (vs := [_, _]) Tryd.func26 rfl Tryd.ntmps26 (by simp) ?_
  unfold insC
  repeat (first | (first | refine J_region ?_ | refine JL_nil ?_ | refine J_seq ?_ | refine J_block ?_ | refine J_skip ?_ | refine J_condF rfl ?_) | (first | ((first | refine JL_step rfl ?_ | refine JL_take rfl rfl ?_); first | refine JO_q (by simp) (JQ_neI0 rfl rfl) rfl ?_ | refine JO_move rfl rfl ?_ | refine JO_assign rfl rfl ?_ | refine JO_len rfl rfl ?_ | refine JO_field0 rfl rfl ?_ | refine JO_load rfl rfl ?_ | refine JO_pickF rfl rfl rfl ?_ | refine JO_boxA rfl rfl (fun r => ?_))))
  rename_i n2
  revert r
  intro n3
  refine J_loop (β := { i : Nat // i ≤ x.l.length }) (fun i => [(2, ptr n2), (3, ptr n3), (5, .int .i64 (i.1 : Int))]) (fun _ => []) (fun _ => [pt n2 (.cells #[.int .i64 x.op, .int .i64 x.a, .int .i64 x.b, .int .i64 x.c, .int .i64 x.d, .slice p1 x.l.length k1] 57 (0, 0)), pt n3 (.cells #[.int .i64 x.op, .int .i64 x.a, .int .i64 x.b, .int .i64 x.c, .int .i64 x.d, .slice p2 x.l.length k2] 57 (0, 0)), Vw 1 (.slice p1 x.l.length k1) x.l.length (ints x.l), Vw 1 (.slice p2 x.l.length k2) x.l.length (ints x.l)]) (fun i => x.l.length - i.1) ⟨0, by omega⟩ ?_ rfl Ent.sel ?_
  · (repeat (first | exact sub_nil _ | refine sub_cons rfl ?_))
  rintro ⟨i, hi⟩
  dsimp only
  by_cases hil : i < x.l.length
  · obtain ⟨z, hz⟩ : ∃ z, x.l[i]? = some z := ⟨_, List.getElem?_eq_getElem hil⟩
    refine J_fact (φ := ∃ b o, p1 = some ⟨b, o, none⟩) (fun F w hs => hs.tail.tail.tail.out (fun k hk => vw_place (by omega) k hk)) (fun hp => ?_)
    obtain ⟨q1, o1, rfl⟩ := hp
    refine J_fact (φ := ∃ b o, p2 = some ⟨b, o, none⟩) (fun F w hs => hs.tail.tail.tail.tail.out (fun k hk => vw_place (by omega) k hk)) (fun hp => ?_)
    obtain ⟨q2, o2, rfl⟩ := hp
    repeat (first | (first | refine J_region ?_ | refine JL_nil ?_ | refine J_seq ?_ | refine J_block ?_ | refine J_skip ?_ | refine J_condT rfl ?_) | (first | ((first | refine JL_step rfl ?_); first | refine JO_q (by simp) (JQ_lssT rfl rfl (by omega)) rfl ?_ | refine JO_move rfl rfl ?_ | refine JO_len rfl rfl ?_ | refine JO_field0 rfl rfl ?_ | refine JO_load rfl rfl ?_)))
    repeat (first | refine J_regionG ?_ | refine JG_fin rfl ?_ | refine JG_n rfl rfl rfl (by kernel_rfl) (by kernel_rfl) rfl Ent.sel (by first | exact JQ_index1 (j := i) rfl rfl hil | exact JQ_load rfl (lds_vw1 (b := q1) (o := o1) (n := x.l.length) (cap := k1) (j := i) hil (ints_get hz)) | exact JQ_load rfl (lds_vw1 (b := q2) (o := o2) (n := x.l.length) (cap := k2) (j := i) hil (ints_get hz)) | exact JQ_neI0 rfl rfl | exact JQ_move rfl | exact JQ_loadB rfl | exact JQ_field0 rfl) ?_)
    repeat (first | (first | refine J_region ?_ | refine JL_nil ?_ | refine J_skip ?_ | refine J_condF rfl ?_) | (first | ((first | refine JL_step rfl ?_); first | refine JO_addN (b := 1) rfl rfl (by omega) rfl ?_ | refine JO_move rfl rfl ?_ | refine JO_assign rfl rfl ?_)))
    exact ⟨⟨i + 1, by omega⟩, by simp only; omega, by (repeat (first | exact sub_nil _ | refine sub_cons rfl ?_)), rfl, Ent.sel⟩
  · obtain rfl : i = x.l.length := by omega
    repeat (first | (first | refine J_region ?_ | refine JL_nil ?_ | refine J_seq ?_ | refine J_condF rfl ?_ | refine J_exit ?_ | refine J_ret ?_) | (first | ((first | refine JL_step rfl ?_); first | refine JO_q (by simp) (JQ_lssF rfl rfl (by omega)) rfl ?_ | refine JO_move rfl rfl ?_ | refine JO_assign rfl rfl ?_ | refine JO_len rfl rfl ?_ | refine JO_field0 rfl rfl ?_ | refine JO_load rfl rfl ?_)))
    exact ret_oneV rfl rfl .nil
set_option maxHeartbeats 2000000 in
theorem lsame_c (x : Ins) (p1 p2 : Option Addr) (k1 k2 : Nat) (hm : x.l.length ≤ 1000000) : Ct Tryd.prog 42 #[.agg (insC x (.slice p1 x.l.length k1)).toArray, .agg (insC x (.slice p2 x.l.length k2)).toArray] [Vw 1 (.slice p1 x.l.length k1) x.l.length (ints x.l), Vw 1 (.slice p2 x.l.length k2) x.l.length (ints x.l)] (RetV (.bool true) []) := by
  refine fn_ret (vs := [_, _]) Tryd.func42 rfl Tryd.ntmps42 (by simp) ?_
  unfold insC
  repeat (first | (first | refine J_region ?_ | refine JL_nil ?_ | refine J_seq ?_ | refine J_block ?_ | refine J_skip ?_ | refine J_condF rfl ?_) | (first | ((first | refine JL_step rfl ?_ | refine JL_take rfl rfl ?_); first | refine JO_q (by simp) (JQ_neI0 rfl rfl) rfl ?_ | refine JO_move rfl rfl ?_ | refine JO_assign rfl rfl ?_ | refine JO_len rfl rfl ?_ | refine JO_field0 rfl rfl ?_ | refine JO_load rfl rfl ?_ | refine JO_pickF rfl rfl rfl ?_ | refine JO_boxA rfl rfl (fun r => ?_))))
  rename_i n2
  revert r
  intro n3
  refine J_loop (β := { i : Nat // i ≤ x.l.length }) (fun i => [(2, ptr n2), (3, ptr n3), (5, .int .i64 (i.1 : Int))]) (fun _ => []) (fun _ => [pt n2 (.cells #[.int .i64 x.op, .int .i64 x.a, .int .i64 x.b, .int .i64 x.c, .int .i64 x.d, .slice p1 x.l.length k1] 57 (0, 0)), pt n3 (.cells #[.int .i64 x.op, .int .i64 x.a, .int .i64 x.b, .int .i64 x.c, .int .i64 x.d, .slice p2 x.l.length k2] 57 (0, 0)), Vw 1 (.slice p1 x.l.length k1) x.l.length (ints x.l), Vw 1 (.slice p2 x.l.length k2) x.l.length (ints x.l)]) (fun i => x.l.length - i.1) ⟨0, by omega⟩ ?_ rfl Ent.sel ?_
  · (repeat (first | exact sub_nil _ | refine sub_cons rfl ?_))
  rintro ⟨i, hi⟩
  dsimp only
  by_cases hil : i < x.l.length
  · obtain ⟨z, hz⟩ : ∃ z, x.l[i]? = some z := ⟨_, List.getElem?_eq_getElem hil⟩
    refine J_fact (φ := ∃ b o, p1 = some ⟨b, o, none⟩) (fun F w hs => hs.tail.tail.tail.out (fun k hk => vw_place (by omega) k hk)) (fun hp => ?_)
    obtain ⟨q1, o1, rfl⟩ := hp
    refine J_fact (φ := ∃ b o, p2 = some ⟨b, o, none⟩) (fun F w hs => hs.tail.tail.tail.tail.out (fun k hk => vw_place (by omega) k hk)) (fun hp => ?_)
    obtain ⟨q2, o2, rfl⟩ := hp
    repeat (first | (first | refine J_region ?_ | refine JL_nil ?_ | refine J_seq ?_ | refine J_block ?_ | refine J_skip ?_ | refine J_condT rfl ?_) | (first | ((first | refine JL_step rfl ?_); first | refine JO_q (by simp) (JQ_lssT rfl rfl (by omega)) rfl ?_ | refine JO_move rfl rfl ?_ | refine JO_len rfl rfl ?_ | refine JO_field0 rfl rfl ?_ | refine JO_load rfl rfl ?_)))
    repeat (first | refine J_regionG ?_ | refine JG_fin rfl ?_ | refine JG_n rfl rfl rfl (by kernel_rfl) (by kernel_rfl) rfl Ent.sel (by first | exact JQ_index1 (j := i) rfl rfl hil | exact JQ_load rfl (lds_vw1 (b := q1) (o := o1) (n := x.l.length) (cap := k1) (j := i) hil (ints_get hz)) | exact JQ_load rfl (lds_vw1 (b := q2) (o := o2) (n := x.l.length) (cap := k2) (j := i) hil (ints_get hz)) | exact JQ_neI0 rfl rfl | exact JQ_move rfl | exact JQ_loadB rfl | exact JQ_field0 rfl) ?_)
    repeat (first | (first | refine J_region ?_ | refine JL_nil ?_ | refine J_skip ?_ | refine J_condF rfl ?_) | (first | ((first | refine JL_step rfl ?_); first | refine JO_addN (b := 1) rfl rfl (by omega) rfl ?_ | refine JO_move rfl rfl ?_ | refine JO_assign rfl rfl ?_)))
    exact ⟨⟨i + 1, by omega⟩, by simp only; omega, by (repeat (first | exact sub_nil _ | refine sub_cons rfl ?_)), rfl, Ent.sel⟩
  · obtain rfl : i = x.l.length := by omega
    repeat (first | (first | refine J_region ?_ | refine JL_nil ?_ | refine J_seq ?_ | refine J_condF rfl ?_ | refine J_exit ?_ | refine J_ret ?_) | (first | ((first | refine JL_step rfl ?_); first | refine JO_q (by simp) (JQ_lssF rfl rfl (by omega)) rfl ?_ | refine JO_move rfl rfl ?_ | refine JO_assign rfl rfl ?_ | refine JO_len rfl rfl ?_ | refine JO_field0 rfl rfl ?_ | refine JO_load rfl rfl ?_)))
    exact ret_oneV rfl rfl .nil
theorem bytes_bad (x : Ins) (p : Option Addr) (cap : Nat) (hc : x.l.length ≤ cap) (hm : x.l.length ≤ 1000000) (h0 : chkA x ≠ 0) : Ct Tryd.prog 31 #[.agg (insC x (.slice p x.l.length cap)).toArray] [Vw 1 (.slice p x.l.length cap) x.l.length (ints x.l)] (RetV (str []) []) := by
  refine fn_ret (vs := [_]) Tryd.func31 rfl Tryd.ntmps31 (by simp) ?_
  repeat (first | (first | refine J_region ?_ | refine JL_nil ?_ | refine J_seq ?_) | (first | ((first | refine JL_step rfl ?_); first | refine JO_callE rfl newwriter_B rfl (fun w _ => ?_) | refine JO_move rfl rfl ?_ | refine JO_assign rfl rfl ?_ | refine JO_boxA rfl rfl (fun r => ?_))))
  have hp := put_bad w [] x p cap hc hm h0
  repeat (first | (first | refine J_region ?_ | refine JL_nil ?_ | refine J_seq ?_ | refine J_condT rfl ?_ | refine J_ret ?_) | (first | ((first | refine JL_step rfl ?_ | refine JL_take rfl rfl ?_); first | refine JO_q (by simp) (JQ_eqP rfl) rfl ?_ | refine JO_q (by simp) (JQ_neT rfl rfl (by omega)) rfl ?_ | refine JO_move rfl rfl ?_ | refine JO_assign rfl rfl ?_ | refine JO_loadW rfl (by rfl) rfl ?_ | refine JO_pickF rfl rfl rfl ?_ | refine JO_callVP rfl (hp) rfl ?_)))
  exact ret_oneV rfl rfl .nil
theorem bytes_ok (x : Ins) (p : Option Addr) (cap : Nat) (hc : x.l.length ≤ cap) (hm : x.l.length ≤ 1000) (ha : -9223372036854775808 ≤ x.a ∧ x.a ≤ 9223372036854775807) {n : Nat} (hn : x.op = (n : Int)) (hn24 : n ≤ 24) (hfit : fitsP (rowOf n).1 x) : Ct Tryd.prog 31 #[.agg (insC x (.slice p x.l.length cap)).toArray] [Vw 1 (.slice p x.l.length cap) x.l.length (ints x.l)] (RetV (str (bytesL (rowOf n) x)) []) := by
  refine fn_ret (vs := [_]) Tryd.func31 rfl Tryd.ntmps31 (by simp) ?_
  repeat (first | (first | refine J_region ?_ | refine JL_nil ?_ | refine J_seq ?_) | (first | ((first | refine JL_step rfl ?_); first | refine JO_callE rfl newwriter_B rfl (fun w _ => ?_) | refine JO_move rfl rfl ?_ | refine JO_assign rfl rfl ?_ | refine JO_boxA rfl rfl (fun r => ?_))))
  have hp := put_ok w [] x p cap hc hm (by simp) ha hn hn24 hfit
  rw [List.nil_append] at hp
  have ht := wtext_B w (bytesL (rowOf n) x)
  repeat (first | (first | refine J_region ?_ | refine JL_nil ?_ | refine J_seq ?_ | refine J_skip ?_ | refine J_condF rfl ?_ | refine J_ret ?_) | (first | ((first | refine JL_step rfl ?_ | refine JL_take rfl rfl ?_); first | refine JO_q (by simp) (JQ_eqP rfl) rfl ?_ | refine JO_q (by simp) (JQ_neF rfl rfl (by omega)) rfl ?_ | refine JO_move rfl rfl ?_ | refine JO_assign rfl rfl ?_ | refine JO_loadW rfl (by rfl) rfl ?_ | refine JO_pickF rfl rfl rfl ?_ | refine JO_callV' rfl (hp) rfl ?_ | refine JO_callV' rfl (ht) rfl ?_)))
  exact ret_oneV rfl rfl .nil
set_option maxRecDepth 8000 in
set_option maxHeartbeats 16000000 in
theorem told9_fault (q : Nat) (code at_ : Int) (hc : code ≠ 0) (te : TypeId) (fz : Nat × Nat) : Ct Tryd.prog 27 #[faultI q, faultV code at_] [Ft q code at_, ro 0 (.cells [types 39].toArray te fz)] (RetV (.bool true) []) := by
  refine fn_ret (vs := [_, _]) Tryd.func27 rfl Tryd.ntmps27 (by simp) ?_
  repeat (first | (first | refine J_region ?_ | refine JL_nil ?_ | refine J_seq ?_) | (first | ((first | refine JL_step rfl ?_ | refine JL_take rfl rfl ?_); first | refine JO_q (by simp) (JQ_eqI1 rfl) rfl ?_ | refine JO_move rfl rfl ?_ | refine JO_assign rfl rfl ?_ | refine JO_field0 rfl rfl ?_ | refine JO_load rfl rfl ?_ | refine JO_pickF rfl rfl rfl ?_ | refine JO_eqI rfl rfl rfl ?_ | refine JO_boxA rfl rfl (fun r => ?_))))
  refine J_condP (p := code = 0) rfl (fun h => absurd h hc) (fun _ => ?_)
  repeat (first | (first | refine J_region ?_ | refine JL_nil ?_ | refine J_seq ?_ | refine J_skip ?_) | (first | ((first | refine JL_step rfl ?_); first | refine JO_alloc1 (by rfl) rfl (fun r => ?_))))
  rename_i r3
  repeat' (first | refine J_regionD ?_ | refine JA_end rfl ?_ | refine JA_step rfl ?_ | exact jal_nil | refine jal_no rfl ?_ | refine jal_yes rfl ?_ ?_ | (first | ((first | refine JA_op rfl rfl ?_ | refine JA_take rfl rfl rfl ?_); first | refine JO_move rfl rfl ?_ | refine JO_assign rfl rfl ?_ | refine JO_field0 rfl rfl ?_ | refine JO_load rfl rfl ?_ | refine JO_loadW rfl (by rfl) rfl ?_ | refine JO_pickT rfl rfl rfl ?_ | refine JO_makeIface (by simp) rfl rfl ?_ | refine JO_callV' rfl (As_c q r (.pointer none) te fz) rfl ?_ | refine JO_callV' rfl (Is_c q code at_) rfl ?_ | refine JO_q (by simp) (JQ_nilCheck rfl) rfl ?_ | refine JO_q (by simp) (JQ_eqK rfl rfl (eqG36 _ _ _ _) (eq36 _ _)) rfl ?_)))
  all_goals (refine J_ret ?_; exact ret_oneV rfl rfl .nil)
theorem told9_faultK (q : Nat) (code at_ : Int) (hc : code ≠ 0) (te : TypeId) (fz : Nat × Nat) : Ct Tryd.prog 27 #[faultI q, faultV code at_] [Ft q code at_, Gl te fz] (RetV (.bool true) [Gl te fz]) :=
  Ct.post (Ct.heap ((Ent.dup (Gl te fz)).trans (Ent.sel (K := [Ft q code at_, Gl te fz, Gl te fz]))) ((told9_fault q code at_ hc te fz).frame [Gl te fz])) fun _ _ ⟨_, ⟨he, hL⟩, hL'⟩ => ⟨_, Ent.refl _, he, by rw [hL', hL]; rfl⟩
end Go.Proofs.YtfelcdbhlahehaaDoor
