/- Layer 9: the document's bytes of an instruction. -/
import Derived.Test.YtickblndgihoeaaGreatDoorM15
import Derived.Test.YtickblndgihoeaaGreatDoorM7
import Derived.Test.YtickblndgihoeaaGreatDoorM14
set_option linter.unusedSimpArgs false
namespace Go.Proofs.YtickblndgihoeaaGreatDoor
open Go Go.Sp
theorem sub_str {k : Nat} {a b : List UInt8} {E' E : Env} (h : Env.get E k = some (str a)) (hb : a = b) (hs : Sub E' E) : Sub ((k, str b) :: E') E := sub_cons (hb ▸ h) hs
theorem row_d {n : Nat} (h : n ≤ 24) (h2 : n ≠ 20) : (rowOf n).1.d = -1 := by
  match n, h with
  | 0, _ => first | rfl | exact absurd rfl h2
  | 1, _ => first | rfl | exact absurd rfl h2
  | 2, _ => first | rfl | exact absurd rfl h2
  | 3, _ => first | rfl | exact absurd rfl h2
  | 4, _ => first | rfl | exact absurd rfl h2
  | 5, _ => first | rfl | exact absurd rfl h2
  | 6, _ => first | rfl | exact absurd rfl h2
  | 7, _ => first | rfl | exact absurd rfl h2
  | 8, _ => first | rfl | exact absurd rfl h2
  | 9, _ => first | rfl | exact absurd rfl h2
  | 10, _ => first | rfl | exact absurd rfl h2
  | 11, _ => first | rfl | exact absurd rfl h2
  | 12, _ => first | rfl | exact absurd rfl h2
  | 13, _ => first | rfl | exact absurd rfl h2
  | 14, _ => first | rfl | exact absurd rfl h2
  | 15, _ => first | rfl | exact absurd rfl h2
  | 16, _ => first | rfl | exact absurd rfl h2
  | 17, _ => first | rfl | exact absurd rfl h2
  | 18, _ => first | rfl | exact absurd rfl h2
  | 19, _ => first | rfl | exact absurd rfl h2
  | 20, _ => first | rfl | exact absurd rfl h2
  | 21, _ => first | rfl | exact absurd rfl h2
  | 22, _ => first | rfl | exact absurd rfl h2
  | 23, _ => first | rfl | exact absurd rfl h2
  | 24, _ => first | rfl | exact absurd rfl h2
  | k + 25, h => omega
theorem row_cnt {n : Nat} (h : n ≤ 24) : ((rowOf n).1.least : Int) < ((rowOf n).1.most : Int) ↔ n = 19 ∨ n = 21 := by
  match n, h with
  | 0, _ => simp [rowOf]
  | 1, _ => simp [rowOf]
  | 2, _ => simp [rowOf]
  | 3, _ => simp [rowOf]
  | 4, _ => simp [rowOf]
  | 5, _ => simp [rowOf]
  | 6, _ => simp [rowOf]
  | 7, _ => simp [rowOf]
  | 8, _ => simp [rowOf]
  | 9, _ => simp [rowOf]
  | 10, _ => simp [rowOf]
  | 11, _ => simp [rowOf]
  | 12, _ => simp [rowOf]
  | 13, _ => simp [rowOf]
  | 14, _ => simp [rowOf]
  | 15, _ => simp [rowOf]
  | 16, _ => simp [rowOf]
  | 17, _ => simp [rowOf]
  | 18, _ => simp [rowOf]
  | 19, _ => simp [rowOf]
  | 20, _ => simp [rowOf]
  | 21, _ => simp [rowOf]
  | 22, _ => simp [rowOf]
  | 23, _ => simp [rowOf]
  | 24, _ => simp [rowOf]
  | k + 25, h => omega
theorem row_plain {n : Nat} (h : n ≤ 24) (hp : (rowOf n).2 = true) : (rowOf n).1 = ⟨false, -1, -1, -1, -1, 0, 0, false⟩ := by
  match n, h with
  | 0, _ => first | rfl | cases hp
  | 1, _ => first | rfl | cases hp
  | 2, _ => first | rfl | cases hp
  | 3, _ => first | rfl | cases hp
  | 4, _ => first | rfl | cases hp
  | 5, _ => first | rfl | cases hp
  | 6, _ => first | rfl | cases hp
  | 7, _ => first | rfl | cases hp
  | 8, _ => first | rfl | cases hp
  | 9, _ => first | rfl | cases hp
  | 10, _ => first | rfl | cases hp
  | 11, _ => first | rfl | cases hp
  | 12, _ => first | rfl | cases hp
  | 13, _ => first | rfl | cases hp
  | 14, _ => first | rfl | cases hp
  | 15, _ => first | rfl | cases hp
  | 16, _ => first | rfl | cases hp
  | 17, _ => first | rfl | cases hp
  | 18, _ => first | rfl | cases hp
  | 19, _ => first | rfl | cases hp
  | 20, _ => first | rfl | cases hp
  | 21, _ => first | rfl | cases hp
  | 22, _ => first | rfl | cases hp
  | 23, _ => first | rfl | cases hp
  | 24, _ => first | rfl | cases hp
  | k + 25, h => omega
theorem row_whole {n : Nat} (h : n ≤ 24) (h1 : n ≠ 1) : (rowOf n).1.whole = false := by
  match n, h with
  | 0, _ => first | rfl | exact absurd rfl h1
  | 1, _ => first | rfl | exact absurd rfl h1
  | 2, _ => first | rfl | exact absurd rfl h1
  | 3, _ => first | rfl | exact absurd rfl h1
  | 4, _ => first | rfl | exact absurd rfl h1
  | 5, _ => first | rfl | exact absurd rfl h1
  | 6, _ => first | rfl | exact absurd rfl h1
  | 7, _ => first | rfl | exact absurd rfl h1
  | 8, _ => first | rfl | exact absurd rfl h1
  | 9, _ => first | rfl | exact absurd rfl h1
  | 10, _ => first | rfl | exact absurd rfl h1
  | 11, _ => first | rfl | exact absurd rfl h1
  | 12, _ => first | rfl | exact absurd rfl h1
  | 13, _ => first | rfl | exact absurd rfl h1
  | 14, _ => first | rfl | exact absurd rfl h1
  | 15, _ => first | rfl | exact absurd rfl h1
  | 16, _ => first | rfl | exact absurd rfl h1
  | 17, _ => first | rfl | exact absurd rfl h1
  | 18, _ => first | rfl | exact absurd rfl h1
  | 19, _ => first | rfl | exact absurd rfl h1
  | 20, _ => first | rfl | exact absurd rfl h1
  | 21, _ => first | rfl | exact absurd rfl h1
  | 22, _ => first | rfl | exact absurd rfl h1
  | 23, _ => first | rfl | exact absurd rfl h1
  | 24, _ => first | rfl | exact absurd rfl h1
  | k + 25, h => omega
theorem bytes_of {n : Nat} {x : Ins} (h : n ≤ 24) (hx : x.op = (n : Int)) (h1 : n ≠ 1) (hl : x.l.length ≤ (rowOf n).1.most) : bytesL (rowOf n) x = (((([UInt8.ofNat n] ++ optL (rowOf n).1.b x.b) ++ optL (rowOf n).1.c x.c) ++ optL (rowOf n).1.d x.d) ++ (if ((rowOf n).1.least : Int) < ((rowOf n).1.most : Int) then encU x.l.length else [])) ++ x.l.flatMap encI := by
  unfold bytesL
  rw [hx, Int.toNat_natCast, row_whole h h1]
  by_cases hp : (rowOf n).2 = true
  · rw [row_plain h hp] at hl ⊢
    have : x.l = [] := List.length_eq_zero_iff.1 (by simpa using hl)
    rw [if_pos hp, this]
    simp [optL]
  · rw [if_neg hp]
    simp
theorem bytes_one {x : Ins} (hx : x.op = ((1 : Nat) : Int)) (hl : x.l.length ≤ (rowOf 1).1.most) : bytesL (rowOf 1) x = [UInt8.ofNat 1] ++ encU (foldZ x.a) := by
  have : x.l = [] := List.length_eq_zero_iff.1 (by simpa [rowOf] using hl)
  unfold bytesL
  rw [hx, this]
  simp [rowOf, optL]
attribute [local irreducible] callFunc Go.method J JL JO JR JR1 JRl Ct JG JM JM1 JW JW1 JQ JQ0 JS CtD LeavesQ ints fitsP chkA by8 Fact
set_option maxRecDepth 8000 in
set_option maxHeartbeats 16000000 in
theorem dbytes_ok (x : Ins) (p : Option Addr) (cap : Nat) (hc : x.l.length ≤ cap) (hm : x.l.length ≤ 1000) (ha : -9223372036854775808 ≤ x.a ∧ x.a ≤ 9223372036854775807) {n : Nat} (hn : x.op = (n : Int)) (hn24 : n ≤ 24) (hfit : fitsP (rowOf n).1 x) :
    Ct Tryz.prog 70 #[.agg (insC x (.slice p x.l.length cap)).toArray] [Vw 1 (.slice p x.l.length cap) x.l.length (ints x.l)] (RetV (.tuple #[str (bytesL (rowOf n) x), .int .i64 0]) []) := by
  have hk := dcheck_c x p cap hc (by omega)
  rw [chk_ok hn hn24 hfit] at hk
  obtain ⟨b1, b2, b3, b4, b5⟩ := row_bounds hn24
  obtain ⟨f1, ⟨f2, f3, f4⟩, f5, f6⟩ : headP (rowOf n).1 x ∧ (inP x.b (rowOf n).1.b ∧ inP x.c (rowOf n).1.c ∧ inP x.d (rowOf n).1.d) ∧ pairP (rowOf n).1 x ∧ okL (rowOf n).1.unlike (rowOf n).1.l x.l := by unfold fitsP at hfit; exact hfit
  have hb0 := in_bound f2 b1
  have hc0 := in_bound f3 b2
  have hd0 := in_bound f4 b3
  have hmem := okL_mem f6 b4
  have hlen := f1.2.2
  have hone : n = 1 → bytesL (rowOf n) x = [UInt8.ofNat 1] ++ encU (foldZ x.a) := fun h => by subst h; exact bytes_one hn hlen
  have hgen : n ≠ 1 → bytesL (rowOf n) x = _ := fun h => bytes_of hn24 hn h hlen
  clear f1 f2 f3 f4 f5 f6 hfit
  generalize bytesL (rowOf n) x = BY at *
  rcases x with ⟨op, a, b, c, d, l⟩
  dsimp only at *
  subst hn
  obtain ⟨b, rfl⟩ := Int.eq_ofNat_of_zero_le hb0.1
  obtain ⟨c, rfl⟩ := Int.eq_ofNat_of_zero_le hc0.1
  obtain ⟨d, rfl⟩ := Int.eq_ofNat_of_zero_le hd0.1
  have hb := bytes_c b (by omega)
  have hcc := bytes_c c (by omega)
  have hdd := bytes_c d (by omega)
  have hll := bytes_c l.length (by omega)
  have hfold := fold_c a ha
  have hfb := bytes_c (foldZ a) (fold_lt ha)
  have g1 := enc_len10 (n := b) (by omega)
  have g2 := enc_len10 (n := c) (by omega)
  have g3 := enc_len10 (n := d) (by omega)
  have g4 := enc_len10 (n := l.length) (by omega)
  have g5 := enc_len10 (fold_lt ha)
  unfold insC at hk ⊢
  dsimp only at *
  refine fn_ret (vs := [_]) Tryz.func70 rfl Tryz.ntmps70 (by simp) ?_
  repeat (first | (first | refine J_region ?_ | refine JL_nil ?_ | refine J_seq ?_) | (first | ((first | refine JL_step rfl ?_); first | refine JO_assign rfl rfl ?_ | refine JO_loadW rfl (by rfl) rfl ?_ | refine JO_boxA rfl rfl (fun r => ?_))))
  revert r
  intro n1
  repeat (first | (first | refine J_region ?_ | refine JL_nil ?_ | refine J_seq ?_ | refine J_skip ?_ | refine J_condF rfl ?_) | (first | ((first | refine JL_step rfl ?_); first | refine JO_q (by simp) (JQ_neF rfl rfl (by omega)) rfl ?_ | refine JO_q (by simp) (JQ_convF (a := n) rfl (wrap_u8 (by omega))) rfl ?_ | refine JO_q (by simp) (JQ_strB (bs := [UInt8.ofNat n]) rfl rfl (by8_one (by omega)).symm) rfl ?_ | refine JO_move rfl rfl ?_ | refine JO_assign rfl rfl ?_ | refine JO_field0 rfl rfl ?_ | refine JO_load rfl rfl ?_ | refine JO_buildSlice rfl rfl rfl (by decide) rfl (fun r => ?_) | refine JO_callVP rfl (hk) rfl ?_)))
  refine J_cut [(1, ptr n1), (5, str (([UInt8.ofNat n] ++ optL (rowOf n).1.b ((b : Nat) : Int)) ++ optL (rowOf n).1.c ((c : Nat) : Int)))] [pt n1 (.cells #[.int .i64 ((n : Nat) : Int), .int .i64 a, .int .i64 ((b : Nat) : Int), .int .i64 ((c : Nat) : Int), .int .i64 ((d : Nat) : Int), .slice p l.length cap] 52 (0, 0)), Vw 1 (.slice p l.length cap) l.length (ints l), Fact (n ≠ 1)] ?_ ?_
  · match n, hn24 with
    | 0, _ =>
      repeat (first | (first | refine J_region ?_ | refine JL_nil ?_ | refine J_seq ?_ | refine J_block ?_ | refine J_skip ?_ | refine J_condF rfl ?_) | (first | ((first | refine JL_step rfl ?_); first | refine JO_q (by simp) (JQ_eqF rfl rfl (by omega)) rfl ?_ | refine JO_assign rfl rfl ?_)))
      exact ⟨sub_cons rfl (sub_str rfl (by simp [optL, rowOf, encI]) (sub_nil _)), rfl, (fact_in (p := 0 ≠ 1) (by decide)).trans (Ent.sel (K := [pt n1 (.cells #[.int .i64 ((0 : Nat) : Int), .int .i64 a, .int .i64 ((b : Nat) : Int), .int .i64 ((c : Nat) : Int), .int .i64 ((d : Nat) : Int), .slice p l.length cap] 52 (0, 0)), Vw 1 (.slice p l.length cap) l.length (ints l), Fact (0 ≠ 1)]))⟩
    | 1, _ =>
      repeat (first | (first | refine J_region ?_ | refine JL_nil ?_ | refine J_seq ?_ | refine J_block ?_ | refine J_condT rfl ?_ | refine J_ret ?_) | (first | ((first | refine JL_step rfl ?_); first | refine JO_q (by simp) (JQ_eqT rfl rfl (by omega)) rfl ?_ | refine JO_q (by simp) (JQ_addS (a := [UInt8.ofNat 1]) rfl rfl (by simp only [List.length_singleton]; omega)) rfl ?_ | refine JO_move rfl rfl ?_ | refine JO_assign rfl rfl ?_ | refine JO_field0 rfl rfl ?_ | refine JO_load rfl rfl ?_ | refine JO_callVP rfl (hfold) rfl ?_ | refine JO_callVP rfl (hfb) rfl ?_)))
      rw [hone rfl]
      exact ret_twoV rfl rfl rfl .nil
    | 2, _ =>
      repeat (first | (first | refine J_region ?_ | refine JL_nil ?_ | refine J_seq ?_ | refine J_block ?_ | refine J_skip ?_ | refine J_condF rfl ?_) | (first | ((first | refine JL_step rfl ?_); first | refine JO_q (by simp) (JQ_eqF rfl rfl (by omega)) rfl ?_ | refine JO_assign rfl rfl ?_)))
      exact ⟨sub_cons rfl (sub_str rfl (by simp [optL, rowOf, encI]) (sub_nil _)), rfl, (fact_in (p := 2 ≠ 1) (by decide)).trans (Ent.sel (K := [pt n1 (.cells #[.int .i64 ((2 : Nat) : Int), .int .i64 a, .int .i64 ((b : Nat) : Int), .int .i64 ((c : Nat) : Int), .int .i64 ((d : Nat) : Int), .slice p l.length cap] 52 (0, 0)), Vw 1 (.slice p l.length cap) l.length (ints l), Fact (2 ≠ 1)]))⟩
    | 3, _ =>
      repeat (first | (first | refine J_region ?_ | refine JL_nil ?_ | refine J_seq ?_ | refine J_block ?_ | refine J_skip ?_ | refine J_condF rfl ?_) | (first | ((first | refine JL_step rfl ?_); first | refine JO_q (by simp) (JQ_eqF rfl rfl (by omega)) rfl ?_ | refine JO_assign rfl rfl ?_)))
      exact ⟨sub_cons rfl (sub_str rfl (by simp [optL, rowOf, encI]) (sub_nil _)), rfl, (fact_in (p := 3 ≠ 1) (by decide)).trans (Ent.sel (K := [pt n1 (.cells #[.int .i64 ((3 : Nat) : Int), .int .i64 a, .int .i64 ((b : Nat) : Int), .int .i64 ((c : Nat) : Int), .int .i64 ((d : Nat) : Int), .slice p l.length cap] 52 (0, 0)), Vw 1 (.slice p l.length cap) l.length (ints l), Fact (3 ≠ 1)]))⟩
    | 4, _ =>
      repeat (first | (first | refine J_region ?_ | refine JL_nil ?_ | refine J_seq ?_ | refine J_block ?_ | refine J_skip ?_ | refine J_condF rfl ?_) | (first | ((first | refine JL_step rfl ?_); first | refine JO_q (by simp) (JQ_eqF rfl rfl (by omega)) rfl ?_ | refine JO_assign rfl rfl ?_)))
      exact ⟨sub_cons rfl (sub_str rfl (by simp [optL, rowOf, encI]) (sub_nil _)), rfl, (fact_in (p := 4 ≠ 1) (by decide)).trans (Ent.sel (K := [pt n1 (.cells #[.int .i64 ((4 : Nat) : Int), .int .i64 a, .int .i64 ((b : Nat) : Int), .int .i64 ((c : Nat) : Int), .int .i64 ((d : Nat) : Int), .slice p l.length cap] 52 (0, 0)), Vw 1 (.slice p l.length cap) l.length (ints l), Fact (4 ≠ 1)]))⟩
    | 5, _ =>
      repeat (first | (first | refine J_region ?_ | refine JL_nil ?_ | refine J_seq ?_ | refine J_block ?_ | refine J_skip ?_ | refine J_condF rfl ?_) | (first | ((first | refine JL_step rfl ?_); first | refine JO_q (by simp) (JQ_eqF rfl rfl (by omega)) rfl ?_ | refine JO_assign rfl rfl ?_)))
      exact ⟨sub_cons rfl (sub_str rfl (by simp [optL, rowOf, encI]) (sub_nil _)), rfl, (fact_in (p := 5 ≠ 1) (by decide)).trans (Ent.sel (K := [pt n1 (.cells #[.int .i64 ((5 : Nat) : Int), .int .i64 a, .int .i64 ((b : Nat) : Int), .int .i64 ((c : Nat) : Int), .int .i64 ((d : Nat) : Int), .slice p l.length cap] 52 (0, 0)), Vw 1 (.slice p l.length cap) l.length (ints l), Fact (5 ≠ 1)]))⟩
    | 6, _ =>
      repeat (first | (first | refine J_region ?_ | refine JL_nil ?_ | refine J_seq ?_ | refine J_block ?_ | refine J_skip ?_ | refine J_condF rfl ?_) | (first | ((first | refine JL_step rfl ?_); first | refine JO_q (by simp) (JQ_eqF rfl rfl (by omega)) rfl ?_ | refine JO_assign rfl rfl ?_)))
      exact ⟨sub_cons rfl (sub_str rfl (by simp [optL, rowOf, encI]) (sub_nil _)), rfl, (fact_in (p := 6 ≠ 1) (by decide)).trans (Ent.sel (K := [pt n1 (.cells #[.int .i64 ((6 : Nat) : Int), .int .i64 a, .int .i64 ((b : Nat) : Int), .int .i64 ((c : Nat) : Int), .int .i64 ((d : Nat) : Int), .slice p l.length cap] 52 (0, 0)), Vw 1 (.slice p l.length cap) l.length (ints l), Fact (6 ≠ 1)]))⟩
    | 7, _ =>
      repeat (first | (first | refine J_region ?_ | refine JL_nil ?_ | refine J_seq ?_ | refine J_block ?_ | refine J_skip ?_ | refine J_condF rfl ?_) | (first | ((first | refine JL_step rfl ?_); first | refine JO_q (by simp) (JQ_eqF rfl rfl (by omega)) rfl ?_ | refine JO_assign rfl rfl ?_)))
      exact ⟨sub_cons rfl (sub_str rfl (by simp [optL, rowOf, encI]) (sub_nil _)), rfl, (fact_in (p := 7 ≠ 1) (by decide)).trans (Ent.sel (K := [pt n1 (.cells #[.int .i64 ((7 : Nat) : Int), .int .i64 a, .int .i64 ((b : Nat) : Int), .int .i64 ((c : Nat) : Int), .int .i64 ((d : Nat) : Int), .slice p l.length cap] 52 (0, 0)), Vw 1 (.slice p l.length cap) l.length (ints l), Fact (7 ≠ 1)]))⟩
    | 8, _ =>
      repeat (first | (first | refine J_region ?_ | refine JL_nil ?_ | refine J_seq ?_ | refine J_block ?_ | refine J_skip ?_ | refine J_condF rfl ?_) | (first | ((first | refine JL_step rfl ?_); first | refine JO_q (by simp) (JQ_eqF rfl rfl (by omega)) rfl ?_ | refine JO_assign rfl rfl ?_)))
      exact ⟨sub_cons rfl (sub_str rfl (by simp [optL, rowOf, encI]) (sub_nil _)), rfl, (fact_in (p := 8 ≠ 1) (by decide)).trans (Ent.sel (K := [pt n1 (.cells #[.int .i64 ((8 : Nat) : Int), .int .i64 a, .int .i64 ((b : Nat) : Int), .int .i64 ((c : Nat) : Int), .int .i64 ((d : Nat) : Int), .slice p l.length cap] 52 (0, 0)), Vw 1 (.slice p l.length cap) l.length (ints l), Fact (8 ≠ 1)]))⟩
    | 9, _ =>
      repeat (first | (first | refine J_region ?_ | refine JL_nil ?_ | refine J_seq ?_ | refine J_block ?_ | refine J_skip ?_ | refine J_condT rfl ?_ | refine J_condF rfl ?_) | (first | ((first | refine JL_step rfl ?_); first | refine JO_q (by simp) (JQ_eqT rfl rfl (by omega)) rfl ?_ | refine JO_q (by simp) (JQ_eqF rfl rfl (by omega)) rfl ?_ | refine JO_q (by simp) (JQ_convF (a := b) rfl (wrap_u64 (by omega))) rfl ?_ | refine JO_q (by simp) (JQ_addS (a := [UInt8.ofNat 9]) rfl rfl (by simp only [List.length_singleton]; omega)) rfl ?_ | refine JO_move rfl rfl ?_ | refine JO_assign rfl rfl ?_ | refine JO_field0 rfl rfl ?_ | refine JO_load rfl rfl ?_ | refine JO_callVP rfl (hb) rfl ?_)))
      exact ⟨sub_cons rfl (sub_str rfl (by simp [optL, rowOf, encI]) (sub_nil _)), rfl, (fact_in (p := 9 ≠ 1) (by decide)).trans (Ent.sel (K := [pt n1 (.cells #[.int .i64 ((9 : Nat) : Int), .int .i64 a, .int .i64 ((b : Nat) : Int), .int .i64 ((c : Nat) : Int), .int .i64 ((d : Nat) : Int), .slice p l.length cap] 52 (0, 0)), Vw 1 (.slice p l.length cap) l.length (ints l), Fact (9 ≠ 1)]))⟩
    | 10, _ =>
      repeat (first | (first | refine J_region ?_ | refine JL_nil ?_ | refine J_seq ?_ | refine J_block ?_ | refine J_skip ?_ | refine J_condT rfl ?_ | refine J_condF rfl ?_) | (first | ((first | refine JL_step rfl ?_); first | refine JO_q (by simp) (JQ_eqT rfl rfl (by omega)) rfl ?_ | refine JO_q (by simp) (JQ_eqF rfl rfl (by omega)) rfl ?_ | refine JO_q (by simp) (JQ_convF (a := b) rfl (wrap_u64 (by omega))) rfl ?_ | refine JO_q (by simp) (JQ_addS (a := [UInt8.ofNat 10]) rfl rfl (by simp only [List.length_singleton]; omega)) rfl ?_ | refine JO_move rfl rfl ?_ | refine JO_assign rfl rfl ?_ | refine JO_field0 rfl rfl ?_ | refine JO_load rfl rfl ?_ | refine JO_callVP rfl (hb) rfl ?_)))
      exact ⟨sub_cons rfl (sub_str rfl (by simp [optL, rowOf, encI]) (sub_nil _)), rfl, (fact_in (p := 10 ≠ 1) (by decide)).trans (Ent.sel (K := [pt n1 (.cells #[.int .i64 ((10 : Nat) : Int), .int .i64 a, .int .i64 ((b : Nat) : Int), .int .i64 ((c : Nat) : Int), .int .i64 ((d : Nat) : Int), .slice p l.length cap] 52 (0, 0)), Vw 1 (.slice p l.length cap) l.length (ints l), Fact (10 ≠ 1)]))⟩
    | 11, _ =>
      repeat (first | (first | refine J_region ?_ | refine JL_nil ?_ | refine J_seq ?_ | refine J_block ?_ | refine J_skip ?_ | refine J_condF rfl ?_) | (first | ((first | refine JL_step rfl ?_); first | refine JO_q (by simp) (JQ_eqF rfl rfl (by omega)) rfl ?_ | refine JO_assign rfl rfl ?_)))
      exact ⟨sub_cons rfl (sub_str rfl (by simp [optL, rowOf, encI]) (sub_nil _)), rfl, (fact_in (p := 11 ≠ 1) (by decide)).trans (Ent.sel (K := [pt n1 (.cells #[.int .i64 ((11 : Nat) : Int), .int .i64 a, .int .i64 ((b : Nat) : Int), .int .i64 ((c : Nat) : Int), .int .i64 ((d : Nat) : Int), .slice p l.length cap] 52 (0, 0)), Vw 1 (.slice p l.length cap) l.length (ints l), Fact (11 ≠ 1)]))⟩
    | 12, _ =>
      repeat (first | (first | refine J_region ?_ | refine JL_nil ?_ | refine J_seq ?_ | refine J_block ?_ | refine J_skip ?_ | refine J_condF rfl ?_) | (first | ((first | refine JL_step rfl ?_); first | refine JO_q (by simp) (JQ_eqF rfl rfl (by omega)) rfl ?_ | refine JO_assign rfl rfl ?_)))
      exact ⟨sub_cons rfl (sub_str rfl (by simp [optL, rowOf, encI]) (sub_nil _)), rfl, (fact_in (p := 12 ≠ 1) (by decide)).trans (Ent.sel (K := [pt n1 (.cells #[.int .i64 ((12 : Nat) : Int), .int .i64 a, .int .i64 ((b : Nat) : Int), .int .i64 ((c : Nat) : Int), .int .i64 ((d : Nat) : Int), .slice p l.length cap] 52 (0, 0)), Vw 1 (.slice p l.length cap) l.length (ints l), Fact (12 ≠ 1)]))⟩
    | 13, _ =>
      repeat (first | (first | refine J_region ?_ | refine JL_nil ?_ | refine J_seq ?_ | refine J_block ?_ | refine J_skip ?_ | refine J_condF rfl ?_) | (first | ((first | refine JL_step rfl ?_); first | refine JO_q (by simp) (JQ_eqF rfl rfl (by omega)) rfl ?_ | refine JO_assign rfl rfl ?_)))
      exact ⟨sub_cons rfl (sub_str rfl (by simp [optL, rowOf, encI]) (sub_nil _)), rfl, (fact_in (p := 13 ≠ 1) (by decide)).trans (Ent.sel (K := [pt n1 (.cells #[.int .i64 ((13 : Nat) : Int), .int .i64 a, .int .i64 ((b : Nat) : Int), .int .i64 ((c : Nat) : Int), .int .i64 ((d : Nat) : Int), .slice p l.length cap] 52 (0, 0)), Vw 1 (.slice p l.length cap) l.length (ints l), Fact (13 ≠ 1)]))⟩
    | 14, _ =>
      repeat (first | (first | refine J_region ?_ | refine JL_nil ?_ | refine J_seq ?_ | refine J_block ?_ | refine J_skip ?_ | refine J_condT rfl ?_ | refine J_condF rfl ?_) | (first | ((first | refine JL_step rfl ?_); first | refine JO_q (by simp) (JQ_eqT rfl rfl (by omega)) rfl ?_ | refine JO_q (by simp) (JQ_eqF rfl rfl (by omega)) rfl ?_ | refine JO_q (by simp) (JQ_convF (a := b) rfl (wrap_u64 (by omega))) rfl ?_ | refine JO_q (by simp) (JQ_addS (a := [UInt8.ofNat 14]) rfl rfl (by simp only [List.length_singleton]; omega)) rfl ?_ | refine JO_move rfl rfl ?_ | refine JO_assign rfl rfl ?_ | refine JO_field0 rfl rfl ?_ | refine JO_load rfl rfl ?_ | refine JO_callVP rfl (hb) rfl ?_)))
      exact ⟨sub_cons rfl (sub_str rfl (by simp [optL, rowOf, encI]) (sub_nil _)), rfl, (fact_in (p := 14 ≠ 1) (by decide)).trans (Ent.sel (K := [pt n1 (.cells #[.int .i64 ((14 : Nat) : Int), .int .i64 a, .int .i64 ((b : Nat) : Int), .int .i64 ((c : Nat) : Int), .int .i64 ((d : Nat) : Int), .slice p l.length cap] 52 (0, 0)), Vw 1 (.slice p l.length cap) l.length (ints l), Fact (14 ≠ 1)]))⟩
    | 15, _ =>
      repeat (first | (first | refine J_region ?_ | refine JL_nil ?_ | refine J_seq ?_ | refine J_block ?_ | refine J_skip ?_ | refine J_condT rfl ?_ | refine J_condF rfl ?_) | (first | ((first | refine JL_step rfl ?_); first | refine JO_q (by simp) (JQ_eqT rfl rfl (by omega)) rfl ?_ | refine JO_q (by simp) (JQ_eqF rfl rfl (by omega)) rfl ?_ | refine JO_q (by simp) (JQ_convF (a := b) rfl (wrap_u64 (by omega))) rfl ?_ | refine JO_q (by simp) (JQ_addS (a := [UInt8.ofNat 15]) rfl rfl (by simp only [List.length_singleton]; omega)) rfl ?_ | refine JO_move rfl rfl ?_ | refine JO_assign rfl rfl ?_ | refine JO_field0 rfl rfl ?_ | refine JO_load rfl rfl ?_ | refine JO_callVP rfl (hb) rfl ?_)))
      exact ⟨sub_cons rfl (sub_str rfl (by simp [optL, rowOf, encI]) (sub_nil _)), rfl, (fact_in (p := 15 ≠ 1) (by decide)).trans (Ent.sel (K := [pt n1 (.cells #[.int .i64 ((15 : Nat) : Int), .int .i64 a, .int .i64 ((b : Nat) : Int), .int .i64 ((c : Nat) : Int), .int .i64 ((d : Nat) : Int), .slice p l.length cap] 52 (0, 0)), Vw 1 (.slice p l.length cap) l.length (ints l), Fact (15 ≠ 1)]))⟩
    | 16, _ =>
      repeat (first | (first | refine J_region ?_ | refine JL_nil ?_ | refine J_seq ?_ | refine J_block ?_ | refine J_skip ?_ | refine J_condT rfl ?_ | refine J_condF rfl ?_) | (first | ((first | refine JL_step rfl ?_); first | refine JO_q (by simp) (JQ_eqT rfl rfl (by omega)) rfl ?_ | refine JO_q (by simp) (JQ_eqF rfl rfl (by omega)) rfl ?_ | refine JO_assign rfl rfl ?_)))
      refine J_regionW none [pt n1 (.cells #[.int .i64 ((16 : Nat) : Int), .int .i64 a, .int .i64 ((b : Nat) : Int), .int .i64 ((c : Nat) : Int), .int .i64 ((d : Nat) : Int), .slice p l.length cap] 52 (0, 0))] Ent.sel ?_
      repeat' (first | refine JW_fin rfl ?_ | refine JW_n rfl rfl (by kernel_rfl) (by kernel_rfl) (by kernel_rfl) (by kernel_rfl) rfl (by first | exact JQ_convF (a := b) rfl (wrap_u64 (by omega)) | exact JQ_convF (a := c) rfl (wrap_u64 (by omega)) | exact JQ_addS rfl rfl (by simp only [List.length_append, List.length_singleton]; omega) | exact JQ_move rfl | exact JQ_assign rfl | exact JQ_loadB rfl | exact JQ_field0 rfl) ?_ | refine JW_only rfl ?_ | refine JW1_jo rfl rfl (JO_callV' rfl hb rfl ⟨by first | exact (fun _ => Ent.sel), ?_⟩) | refine JW1_jo rfl rfl (JO_callV' rfl hcc rfl ⟨by first | exact (fun _ => Ent.sel), ?_⟩))
      exact ⟨sub_cons rfl (sub_str rfl (by simp [optL, rowOf, encI]) (sub_nil _)), rfl, (fact_in (p := 16 ≠ 1) (by decide)).trans (Ent.sel (K := [pt n1 (.cells #[.int .i64 ((16 : Nat) : Int), .int .i64 a, .int .i64 ((b : Nat) : Int), .int .i64 ((c : Nat) : Int), .int .i64 ((d : Nat) : Int), .slice p l.length cap] 52 (0, 0)), Vw 1 (.slice p l.length cap) l.length (ints l), Fact (16 ≠ 1)]))⟩
    | 17, _ =>
      repeat (first | (first | refine J_region ?_ | refine JL_nil ?_ | refine J_seq ?_ | refine J_block ?_ | refine J_skip ?_ | refine J_condT rfl ?_ | refine J_condF rfl ?_) | (first | ((first | refine JL_step rfl ?_); first | refine JO_q (by simp) (JQ_eqT rfl rfl (by omega)) rfl ?_ | refine JO_q (by simp) (JQ_eqF rfl rfl (by omega)) rfl ?_ | refine JO_assign rfl rfl ?_)))
      refine J_regionW none [pt n1 (.cells #[.int .i64 ((17 : Nat) : Int), .int .i64 a, .int .i64 ((b : Nat) : Int), .int .i64 ((c : Nat) : Int), .int .i64 ((d : Nat) : Int), .slice p l.length cap] 52 (0, 0))] Ent.sel ?_
      repeat' (first | refine JW_fin rfl ?_ | refine JW_n rfl rfl (by kernel_rfl) (by kernel_rfl) (by kernel_rfl) (by kernel_rfl) rfl (by first | exact JQ_convF (a := b) rfl (wrap_u64 (by omega)) | exact JQ_convF (a := c) rfl (wrap_u64 (by omega)) | exact JQ_addS rfl rfl (by simp only [List.length_append, List.length_singleton]; omega) | exact JQ_move rfl | exact JQ_assign rfl | exact JQ_loadB rfl | exact JQ_field0 rfl) ?_ | refine JW_only rfl ?_ | refine JW1_jo rfl rfl (JO_callV' rfl hb rfl ⟨by first | exact (fun _ => Ent.sel), ?_⟩) | refine JW1_jo rfl rfl (JO_callV' rfl hcc rfl ⟨by first | exact (fun _ => Ent.sel), ?_⟩))
      exact ⟨sub_cons rfl (sub_str rfl (by simp [optL, rowOf, encI]) (sub_nil _)), rfl, (fact_in (p := 17 ≠ 1) (by decide)).trans (Ent.sel (K := [pt n1 (.cells #[.int .i64 ((17 : Nat) : Int), .int .i64 a, .int .i64 ((b : Nat) : Int), .int .i64 ((c : Nat) : Int), .int .i64 ((d : Nat) : Int), .slice p l.length cap] 52 (0, 0)), Vw 1 (.slice p l.length cap) l.length (ints l), Fact (17 ≠ 1)]))⟩
    | 18, _ =>
      repeat (first | (first | refine J_region ?_ | refine JL_nil ?_ | refine J_seq ?_ | refine J_block ?_ | refine J_condT rfl ?_ | refine J_condF rfl ?_) | (first | ((first | refine JL_step rfl ?_); first | refine JO_q (by simp) (JQ_eqT rfl rfl (by omega)) rfl ?_ | refine JO_q (by simp) (JQ_eqF rfl rfl (by omega)) rfl ?_ | refine JO_assign rfl rfl ?_)))
      refine J_regionW none [pt n1 (.cells #[.int .i64 ((18 : Nat) : Int), .int .i64 a, .int .i64 ((b : Nat) : Int), .int .i64 ((c : Nat) : Int), .int .i64 ((d : Nat) : Int), .slice p l.length cap] 52 (0, 0))] Ent.sel ?_
      repeat' (first | refine JW_fin rfl ?_ | refine JW_n rfl rfl (by kernel_rfl) (by kernel_rfl) (by kernel_rfl) (by kernel_rfl) rfl (by first | exact JQ_convF (a := b) rfl (wrap_u64 (by omega)) | exact JQ_convF (a := c) rfl (wrap_u64 (by omega)) | exact JQ_addS rfl rfl (by simp only [List.length_append, List.length_singleton]; omega) | exact JQ_move rfl | exact JQ_assign rfl | exact JQ_loadB rfl | exact JQ_field0 rfl) ?_ | refine JW_only rfl ?_ | refine JW1_jo rfl rfl (JO_callV' rfl hb rfl ⟨by first | exact (fun _ => Ent.sel), ?_⟩) | refine JW1_jo rfl rfl (JO_callV' rfl hcc rfl ⟨by first | exact (fun _ => Ent.sel), ?_⟩))
      exact ⟨sub_cons rfl (sub_str rfl (by simp [optL, rowOf, encI]) (sub_nil _)), rfl, (fact_in (p := 18 ≠ 1) (by decide)).trans (Ent.sel (K := [pt n1 (.cells #[.int .i64 ((18 : Nat) : Int), .int .i64 a, .int .i64 ((b : Nat) : Int), .int .i64 ((c : Nat) : Int), .int .i64 ((d : Nat) : Int), .slice p l.length cap] 52 (0, 0)), Vw 1 (.slice p l.length cap) l.length (ints l), Fact (18 ≠ 1)]))⟩
    | 19, _ =>
      repeat (first | (first | refine J_region ?_ | refine JL_nil ?_ | refine J_seq ?_ | refine J_block ?_ | refine J_condT rfl ?_ | refine J_condF rfl ?_) | (first | ((first | refine JL_step rfl ?_); first | refine JO_q (by simp) (JQ_eqT rfl rfl (by omega)) rfl ?_ | refine JO_q (by simp) (JQ_eqF rfl rfl (by omega)) rfl ?_ | refine JO_q (by simp) (JQ_convF (a := b) rfl (wrap_u64 (by omega))) rfl ?_ | refine JO_q (by simp) (JQ_addS (a := [UInt8.ofNat 19]) rfl rfl (by simp only [List.length_singleton]; omega)) rfl ?_ | refine JO_move rfl rfl ?_ | refine JO_assign rfl rfl ?_ | refine JO_field0 rfl rfl ?_ | refine JO_load rfl rfl ?_ | refine JO_callVP rfl (hb) rfl ?_)))
      exact ⟨sub_cons rfl (sub_str rfl (by simp [optL, rowOf, encI]) (sub_nil _)), rfl, (fact_in (p := 19 ≠ 1) (by decide)).trans (Ent.sel (K := [pt n1 (.cells #[.int .i64 ((19 : Nat) : Int), .int .i64 a, .int .i64 ((b : Nat) : Int), .int .i64 ((c : Nat) : Int), .int .i64 ((d : Nat) : Int), .slice p l.length cap] 52 (0, 0)), Vw 1 (.slice p l.length cap) l.length (ints l), Fact (19 ≠ 1)]))⟩
    | 20, _ =>
      repeat (first | (first | refine J_region ?_ | refine JL_nil ?_ | refine J_seq ?_ | refine J_block ?_ | refine J_skip ?_ | refine J_condT rfl ?_ | refine J_condF rfl ?_) | (first | ((first | refine JL_step rfl ?_); first | refine JO_q (by simp) (JQ_eqT rfl rfl (by omega)) rfl ?_ | refine JO_q (by simp) (JQ_eqF rfl rfl (by omega)) rfl ?_ | refine JO_q (by simp) (JQ_convF (a := b) rfl (wrap_u64 (by omega))) rfl ?_ | refine JO_q (by simp) (JQ_addS (a := [UInt8.ofNat 20]) rfl rfl (by simp only [List.length_singleton]; omega)) rfl ?_ | refine JO_move rfl rfl ?_ | refine JO_assign rfl rfl ?_ | refine JO_field0 rfl rfl ?_ | refine JO_load rfl rfl ?_ | refine JO_callVP rfl (hb) rfl ?_)))
      exact ⟨sub_cons rfl (sub_str rfl (by simp [optL, rowOf, encI]) (sub_nil _)), rfl, (fact_in (p := 20 ≠ 1) (by decide)).trans (Ent.sel (K := [pt n1 (.cells #[.int .i64 ((20 : Nat) : Int), .int .i64 a, .int .i64 ((b : Nat) : Int), .int .i64 ((c : Nat) : Int), .int .i64 ((d : Nat) : Int), .slice p l.length cap] 52 (0, 0)), Vw 1 (.slice p l.length cap) l.length (ints l), Fact (20 ≠ 1)]))⟩
    | 21, _ =>
      repeat (first | (first | refine J_region ?_ | refine JL_nil ?_ | refine J_seq ?_ | refine J_block ?_ | refine J_skip ?_ | refine J_condT rfl ?_ | refine J_condF rfl ?_) | (first | ((first | refine JL_step rfl ?_); first | refine JO_q (by simp) (JQ_eqT rfl rfl (by omega)) rfl ?_ | refine JO_q (by simp) (JQ_eqF rfl rfl (by omega)) rfl ?_ | refine JO_q (by simp) (JQ_convF (a := b) rfl (wrap_u64 (by omega))) rfl ?_ | refine JO_q (by simp) (JQ_addS (a := [UInt8.ofNat 21]) rfl rfl (by simp only [List.length_singleton]; omega)) rfl ?_ | refine JO_move rfl rfl ?_ | refine JO_assign rfl rfl ?_ | refine JO_field0 rfl rfl ?_ | refine JO_load rfl rfl ?_ | refine JO_callVP rfl (hb) rfl ?_)))
      exact ⟨sub_cons rfl (sub_str rfl (by simp [optL, rowOf, encI]) (sub_nil _)), rfl, (fact_in (p := 21 ≠ 1) (by decide)).trans (Ent.sel (K := [pt n1 (.cells #[.int .i64 ((21 : Nat) : Int), .int .i64 a, .int .i64 ((b : Nat) : Int), .int .i64 ((c : Nat) : Int), .int .i64 ((d : Nat) : Int), .slice p l.length cap] 52 (0, 0)), Vw 1 (.slice p l.length cap) l.length (ints l), Fact (21 ≠ 1)]))⟩
    | 22, _ =>
      repeat (first | (first | refine J_region ?_ | refine JL_nil ?_ | refine J_seq ?_ | refine J_block ?_ | refine J_skip ?_ | refine J_condT rfl ?_ | refine J_condF rfl ?_) | (first | ((first | refine JL_step rfl ?_); first | refine JO_q (by simp) (JQ_eqT rfl rfl (by omega)) rfl ?_ | refine JO_q (by simp) (JQ_eqF rfl rfl (by omega)) rfl ?_ | refine JO_q (by simp) (JQ_convF (a := b) rfl (wrap_u64 (by omega))) rfl ?_ | refine JO_q (by simp) (JQ_addS (a := [UInt8.ofNat 22]) rfl rfl (by simp only [List.length_singleton]; omega)) rfl ?_ | refine JO_move rfl rfl ?_ | refine JO_assign rfl rfl ?_ | refine JO_field0 rfl rfl ?_ | refine JO_load rfl rfl ?_ | refine JO_callVP rfl (hb) rfl ?_)))
      exact ⟨sub_cons rfl (sub_str rfl (by simp [optL, rowOf, encI]) (sub_nil _)), rfl, (fact_in (p := 22 ≠ 1) (by decide)).trans (Ent.sel (K := [pt n1 (.cells #[.int .i64 ((22 : Nat) : Int), .int .i64 a, .int .i64 ((b : Nat) : Int), .int .i64 ((c : Nat) : Int), .int .i64 ((d : Nat) : Int), .slice p l.length cap] 52 (0, 0)), Vw 1 (.slice p l.length cap) l.length (ints l), Fact (22 ≠ 1)]))⟩
    | 23, _ =>
      repeat (first | (first | refine J_region ?_ | refine JL_nil ?_ | refine J_seq ?_ | refine J_block ?_ | refine J_skip ?_ | refine J_condT rfl ?_ | refine J_condF rfl ?_) | (first | ((first | refine JL_step rfl ?_); first | refine JO_q (by simp) (JQ_eqT rfl rfl (by omega)) rfl ?_ | refine JO_q (by simp) (JQ_eqF rfl rfl (by omega)) rfl ?_ | refine JO_assign rfl rfl ?_)))
      refine J_regionW none [pt n1 (.cells #[.int .i64 ((23 : Nat) : Int), .int .i64 a, .int .i64 ((b : Nat) : Int), .int .i64 ((c : Nat) : Int), .int .i64 ((d : Nat) : Int), .slice p l.length cap] 52 (0, 0))] Ent.sel ?_
      repeat' (first | refine JW_fin rfl ?_ | refine JW_n rfl rfl (by kernel_rfl) (by kernel_rfl) (by kernel_rfl) (by kernel_rfl) rfl (by first | exact JQ_convF (a := b) rfl (wrap_u64 (by omega)) | exact JQ_convF (a := c) rfl (wrap_u64 (by omega)) | exact JQ_addS rfl rfl (by simp only [List.length_append, List.length_singleton]; omega) | exact JQ_move rfl | exact JQ_assign rfl | exact JQ_loadB rfl | exact JQ_field0 rfl) ?_ | refine JW_only rfl ?_ | refine JW1_jo rfl rfl (JO_callV' rfl hb rfl ⟨by first | exact (fun _ => Ent.sel), ?_⟩) | refine JW1_jo rfl rfl (JO_callV' rfl hcc rfl ⟨by first | exact (fun _ => Ent.sel), ?_⟩))
      exact ⟨sub_cons rfl (sub_str rfl (by simp [optL, rowOf, encI]) (sub_nil _)), rfl, (fact_in (p := 23 ≠ 1) (by decide)).trans (Ent.sel (K := [pt n1 (.cells #[.int .i64 ((23 : Nat) : Int), .int .i64 a, .int .i64 ((b : Nat) : Int), .int .i64 ((c : Nat) : Int), .int .i64 ((d : Nat) : Int), .slice p l.length cap] 52 (0, 0)), Vw 1 (.slice p l.length cap) l.length (ints l), Fact (23 ≠ 1)]))⟩
    | 24, _ =>
      repeat (first | (first | refine J_region ?_ | refine JL_nil ?_ | refine J_seq ?_ | refine J_block ?_ | refine J_skip ?_ | refine J_condF rfl ?_) | (first | ((first | refine JL_step rfl ?_); first | refine JO_q (by simp) (JQ_eqF rfl rfl (by omega)) rfl ?_ | refine JO_assign rfl rfl ?_)))
      exact ⟨sub_cons rfl (sub_str rfl (by simp [optL, rowOf, encI]) (sub_nil _)), rfl, (fact_in (p := 24 ≠ 1) (by decide)).trans (Ent.sel (K := [pt n1 (.cells #[.int .i64 ((24 : Nat) : Int), .int .i64 a, .int .i64 ((b : Nat) : Int), .int .i64 ((c : Nat) : Int), .int .i64 ((d : Nat) : Int), .slice p l.length cap] 52 (0, 0)), Vw 1 (.slice p l.length cap) l.length (ints l), Fact (24 ≠ 1)]))⟩
    | k + 25, h => omega
  refine J_fact (fun _ _ hs => hs.tail.tail.tail.out fact_out) (fun h1 => ?_)
  rw [hgen h1]
  have o1 := opt_len (m := (rowOf n).1.b) hb0
  have o2 := opt_len (m := (rowOf n).1.c) hc0
  have o3 := opt_len (m := (rowOf n).1.d) hd0
  have hsl : (([UInt8.ofNat n] ++ optL (rowOf n).1.b ((b : Nat) : Int)) ++ optL (rowOf n).1.c ((c : Nat) : Int)).length ≤ 30 := by simp only [List.length_append, List.length_singleton]; omega
  generalize (([UInt8.ofNat n] ++ optL (rowOf n).1.b ((b : Nat) : Int)) ++ optL (rowOf n).1.c ((c : Nat) : Int)) = s1 at *
  try dsimp only [thn]
  refine J_seq ?_
  refine J_cut [(1, ptr n1), (5, str (s1 ++ optL (rowOf n).1.d ((d : Nat) : Int)))] [pt n1 (.cells #[.int .i64 ((n : Nat) : Int), .int .i64 a, .int .i64 ((b : Nat) : Int), .int .i64 ((c : Nat) : Int), .int .i64 ((d : Nat) : Int), .slice p l.length cap] 52 (0, 0)), Vw 1 (.slice p l.length cap) l.length (ints l)] ?_ ?_
  · by_cases h20 : n = 20
    · subst h20
      repeat (first | (first | refine J_region ?_ | refine JL_nil ?_ | refine J_seq ?_ | refine J_condT rfl ?_) | (first | ((first | refine JL_step rfl ?_); first | refine JO_q (by simp) (JQ_eqT rfl rfl (by omega)) rfl ?_ | refine JO_q (by simp) (JQ_convF (a := d) rfl (wrap_u64 (by omega))) rfl ?_ | refine JO_q (by simp) (JQ_addS rfl rfl (by omega)) rfl ?_ | refine JO_move rfl rfl ?_ | refine JO_assign rfl rfl ?_ | refine JO_field0 rfl rfl ?_ | refine JO_load rfl rfl ?_ | refine JO_callVP rfl (hdd) rfl ?_)))
      exact ⟨sub_cons rfl (sub_str rfl (by rw [show (rowOf 20).1.d = 1000 from rfl, optL_some (by decide)]) (sub_nil _)), rfl, Ent.sel⟩
    · repeat (first | (first | refine J_region ?_ | refine JL_nil ?_ | refine J_seq ?_ | refine J_skip ?_ | refine J_condF rfl ?_) | (first | ((first | refine JL_step rfl ?_); first | refine JO_q (by simp) (JQ_eqF rfl rfl (by omega)) rfl ?_ | refine JO_field0 rfl rfl ?_ | refine JO_load rfl rfl ?_)))
      exact ⟨sub_cons rfl (sub_str rfl (by rw [row_d hn24 h20, optL_none rfl, List.append_nil]) (sub_nil _)), rfl, Ent.sel⟩
  have hs2 : (s1 ++ optL (rowOf n).1.d ((d : Nat) : Int)).length ≤ 40 := by rw [List.length_append]; omega
  generalize (s1 ++ optL (rowOf n).1.d ((d : Nat) : Int)) = s2 at *
  try dsimp only [thn]
  refine J_seq ?_
  refine J_cut [(1, ptr n1), (5, str (s2 ++ (if ((rowOf n).1.least : Int) < ((rowOf n).1.most : Int) then encU l.length else [])))] [pt n1 (.cells #[.int .i64 ((n : Nat) : Int), .int .i64 a, .int .i64 ((b : Nat) : Int), .int .i64 ((c : Nat) : Int), .int .i64 ((d : Nat) : Int), .slice p l.length cap] 52 (0, 0)), Vw 1 (.slice p l.length cap) l.length (ints l)] ?_ ?_
  · by_cases hcn : n = 19 ∨ n = 21
    · rw [if_pos ((row_cnt hn24).2 hcn)]
      rcases hcn with hcn | hcn <;> subst hcn <;> (repeat (first | (first | refine J_region ?_ | refine JL_nil ?_ | refine J_seq ?_ | refine J_condT rfl ?_) | (first | ((first | refine JL_step rfl ?_ | refine JL_take rfl rfl ?_); first | refine JO_q (by simp) (JQ_eqT rfl rfl (by omega)) rfl ?_ | refine JO_q (by simp) (JQ_eqF rfl rfl (by omega)) rfl ?_ | refine JO_q (by simp) (JQ_convF (a := l.length) rfl (wrap_u64 (by omega))) rfl ?_ | refine JO_q (by simp) (JQ_addS rfl rfl (by omega)) rfl ?_ | refine JO_move rfl rfl ?_ | refine JO_assign rfl rfl ?_ | refine JO_len rfl rfl ?_ | refine JO_field0 rfl rfl ?_ | refine JO_load rfl rfl ?_ | refine JO_pickT rfl rfl rfl ?_ | refine JO_pickF rfl rfl rfl ?_ | refine JO_callVP rfl (hll) rfl ?_) | refine JL_pass rfl rfl rfl ?_))) <;> exact ⟨by (repeat (first | exact sub_nil _ | refine sub_cons rfl ?_)), rfl, Ent.sel⟩
    · rw [if_neg (fun h => hcn ((row_cnt hn24).1 h)), List.append_nil]
      repeat (first | (first | refine J_region ?_ | refine JL_nil ?_ | refine J_seq ?_ | refine J_skip ?_ | refine J_condF rfl ?_) | (first | ((first | refine JL_step rfl ?_ | refine JL_take rfl rfl ?_); first | refine JO_q (by simp) (JQ_eqF rfl rfl (by omega)) rfl ?_ | refine JO_move rfl rfl ?_ | refine JO_field0 rfl rfl ?_ | refine JO_load rfl rfl ?_ | refine JO_pickF rfl rfl rfl ?_)))
      exact ⟨by (repeat (first | exact sub_nil _ | refine sub_cons rfl ?_)), rfl, Ent.sel⟩
  have hs3 : (s2 ++ (if ((rowOf n).1.least : Int) < ((rowOf n).1.most : Int) then encU l.length else [])).length ≤ 60 := by
    rw [List.length_append]
    split
    · omega
    · simp; omega
  generalize (s2 ++ (if ((rowOf n).1.least : Int) < ((rowOf n).1.most : Int) then encU l.length else [])) = s3 at *
  repeat (first | (first | refine J_region ?_ | refine JL_nil ?_ | refine J_seq ?_ | refine J_block ?_) | (first | ((first | refine JL_step rfl ?_); first | refine JO_assign rfl rfl ?_)))
  refine J_loop (β := { i : Nat // i ≤ l.length }) (fun i => [(1, ptr n1), (5, str (s3 ++ (l.take i.1).flatMap encI)), (6, .int .i64 (i.1 : Int))]) (fun _ => []) (fun i => [pt n1 (.cells #[.int .i64 ((n : Nat) : Int), .int .i64 a, .int .i64 ((b : Nat) : Int), .int .i64 ((c : Nat) : Int), .int .i64 ((d : Nat) : Int), .slice p l.length cap] 52 (0, 0)), Vw 1 (.slice p l.length cap) l.length (ints l)]) (fun i => l.length - i.1) ⟨0, by omega⟩ ?_ rfl Ent.sel ?_
  · exact sub_cons rfl (sub_str rfl (by simp) (sub_cons rfl (sub_nil _)))
  rintro ⟨i, hi⟩
  dsimp only
  have hfl := flat_len (l := l.take i) (fun n hn => hmem n (List.mem_of_mem_take hn))
  rw [List.length_take] at hfl
  by_cases hil : i < l.length
  · obtain ⟨z, hz⟩ : ∃ z, l[i]? = some z := ⟨_, List.getElem?_eq_getElem hil⟩
    have hz1 := hmem z (List.mem_of_getElem? hz)
    obtain ⟨m, rfl⟩ := Int.eq_ofNat_of_zero_le hz1.1
    have hbm := bytes_c m (by omega)
    have gm := enc_len10 (n := m) (by omega)
    repeat (first | (first | refine J_region ?_ | refine JL_nil ?_ | refine J_seq ?_ | refine J_block ?_ | refine J_skip ?_ | refine J_condT rfl ?_) | (first | ((first | refine JL_step rfl ?_); first | refine JO_q (by simp) (JQ_lssT rfl rfl (by omega)) rfl ?_ | refine JO_indexV1 (cs := ints l) rfl rfl hil _ (ints_get hz) rfl fun b1 o1 hl1 => ?_ | refine JO_loadL rfl hl1 rfl ?_ | refine JO_q (by simp) (JQ_convF (a := m) rfl (wrap_u64 (by omega))) rfl ?_ | refine JO_q (by simp) (JQ_addS rfl rfl (by rw [List.length_append]; omega)) rfl ?_ | refine JO_addN (b := 1) rfl rfl (by omega) rfl ?_ | refine JO_move rfl rfl ?_ | refine JO_assign rfl rfl ?_ | refine JO_len rfl rfl ?_ | refine JO_field0 rfl rfl ?_ | refine JO_load rfl rfl ?_ | refine JO_callVP rfl (hbm) rfl ?_)))
    exact ⟨⟨i + 1, by omega⟩, by simp only; omega, sub_cons rfl (sub_str rfl (by rw [List.take_add_one, hz]; simp [encI]) (sub_cons rfl (sub_nil _))), rfl, Ent.sel⟩
  · obtain rfl : i = l.length := by omega
    rw [List.take_length]
    repeat (first | (first | refine J_region ?_ | refine JL_nil ?_ | refine J_seq ?_ | refine J_condF rfl ?_ | refine J_exit ?_ | refine J_ret ?_) | (first | ((first | refine JL_step rfl ?_); first | refine JO_q (by simp) (JQ_lssF rfl rfl (by omega)) rfl ?_ | refine JO_move rfl rfl ?_ | refine JO_assign rfl rfl ?_ | refine JO_len rfl rfl ?_ | refine JO_field0 rfl rfl ?_ | refine JO_load rfl rfl ?_)))
    exact ret_twoV rfl rfl rfl .nil
end Go.Proofs.YtickblndgihoeaaGreatDoor
