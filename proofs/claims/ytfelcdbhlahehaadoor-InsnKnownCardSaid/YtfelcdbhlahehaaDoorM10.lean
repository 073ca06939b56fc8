/- Layer 9: the document reads an instruction. -/
import Derived.Test.YtfelcdbhlahehaaDoorM8
import Derived.Test.YtfelcdbhlahehaaDoorM9
import Derived.Test.YtfelcdbhlahehaaDoorM6
import Derived.Test.YtfelcdbhlahehaaDoorM4
namespace Go.Proofs.YtfelcdbhlahehaaDoor
open Go Go.Sp
theorem ins_one {x : Ins} {v : Value} (h : v.oneCell' = true) : ∀ u ∈ insC x v, u.oneCell' = true := by
  intro u hu
  simp only [insC, List.mem_cons, List.not_mem_nil, or_false] at hu
  rcases hu with rfl | rfl | rfl | rfl | rfl | rfl <;> first | rfl | exact h
attribute [local irreducible] callFunc Go.method J JL JO Ct JG JM JW JW1 JQ JQ0 JS CtD LeavesQ rowOf ints RdB Er uA smA by8 operK fitsP rowC
end Go.Proofs.YtfelcdbhlahehaaDoor

/- Layer 9: an instruction is laid. -/
namespace Go.Proofs.YtfelcdbhlahehaaDoor
open Go Go.Sp
def encI (n : Int) : List UInt8 := encU n.toNat
def optL (m n : Int) : List UInt8 := if m = -1 then [] else encI n
/-- An instruction's bytes. -/
def bytesL (r : Row × Bool) (x : Ins) : List UInt8 :=
  UInt8.ofNat x.op.toNat :: (if r.2 = true then [] else
    (if r.1.whole = true then encU (foldZ x.a) else []) ++ (optL r.1.b x.b ++ (optL r.1.c x.c ++ (optL r.1.d x.d ++ ((if (r.1.least : Int) < (r.1.most : Int) then encU x.l.length else []) ++ x.l.flatMap encI)))))
theorem row_bounds {n : Nat} (h : n ≤ 24) : (rowOf n).1.b ≤ 1000 ∧ (rowOf n).1.c ≤ 1000 ∧ (rowOf n).1.d ≤ 1000 ∧ (rowOf n).1.l ≤ 1000 ∧ (rowOf n).1.most ≤ 8 := by
  match n, h with
  | 0, _ => exact ⟨by decide, by decide, by decide, by decide, by decide⟩
  | 1, _ => exact ⟨by decide, by decide, by decide, by decide, by decide⟩
  | 2, _ => exact ⟨by decide, by decide, by decide, by decide, by decide⟩
  | 3, _ => exact ⟨by decide, by decide, by decide, by decide, by decide⟩
  | 4, _ => exact ⟨by decide, by decide, by decide, by decide, by decide⟩
  | 5, _ => exact ⟨by decide, by decide, by decide, by decide, by decide⟩
  | 6, _ => exact ⟨by decide, by decide, by decide, by decide, by decide⟩
  | 7, _ => exact ⟨by decide, by decide, by decide, by decide, by decide⟩
  | 8, _ => exact ⟨by decide, by decide, by decide, by decide, by decide⟩
  | 9, _ => exact ⟨by decide, by decide, by decide, by decide, by decide⟩
  | 10, _ => exact ⟨by decide, by decide, by decide, by decide, by decide⟩
  | 11, _ => exact ⟨by decide, by decide, by decide, by decide, by decide⟩
  | 12, _ => exact ⟨by decide, by decide, by decide, by decide, by decide⟩
  | 13, _ => exact ⟨by decide, by decide, by decide, by decide, by decide⟩
  | 14, _ => exact ⟨by decide, by decide, by decide, by decide, by decide⟩
  | 15, _ => exact ⟨by decide, by decide, by decide, by decide, by decide⟩
  | 16, _ => exact ⟨by decide, by decide, by decide, by decide, by decide⟩
  | 17, _ => exact ⟨by decide, by decide, by decide, by decide, by decide⟩
  | 18, _ => exact ⟨by decide, by decide, by decide, by decide, by decide⟩
  | 19, _ => exact ⟨by decide, by decide, by decide, by decide, by decide⟩
  | 20, _ => exact ⟨by decide, by decide, by decide, by decide, by decide⟩
  | 21, _ => exact ⟨by decide, by decide, by decide, by decide, by decide⟩
  | 22, _ => exact ⟨by decide, by decide, by decide, by decide, by decide⟩
  | 23, _ => exact ⟨by decide, by decide, by decide, by decide, by decide⟩
  | 24, _ => exact ⟨by decide, by decide, by decide, by decide, by decide⟩
  | k + 25, h => omega
theorem in_bound {n m : Int} (h : inP n m) (hm : m ≤ 1000) : 0 ≤ n ∧ n ≤ 1000 := by unfold inP at h; omega
theorem flat_len {l : List Int} (h : ∀ n ∈ l, 0 ≤ n ∧ n ≤ 1000) : (l.flatMap encI).length ≤ l.length * 10 := by
  induction l with
  | nil => simp
  | cons n l ih =>
    have h1 := enc_len10 (n := n.toNat) (by have := h n (by simp); omega)
    have h2 := ih (fun m hm => h m (by simp [hm]))
    simp only [List.flatMap_cons, List.length_append, List.length_cons, encI] at *
    omega
theorem opt_len {m n : Int} (h : 0 ≤ n ∧ n ≤ 1000) : (optL m n).length ≤ 10 := by
  unfold optL
  split
  · simp
  · exact enc_len10 (by omega)
theorem okL_mem {un : Bool} {rl : Int} {l : List Int} (h : okL un rl l) (hr : rl ≤ 1000) : ∀ n ∈ l, 0 ≤ n ∧ n ≤ 1000 := fun n hn => by
  obtain ⟨i, hi, rfl⟩ := List.mem_iff_getElem.1 hn
  have := (h i hi _ (List.getElem?_eq_getElem hi)).2
  omega
theorem optL_none {m n : Int} (h : m = -1) : optL m n = [] := by unfold optL; rw [if_pos h]
theorem optL_some {m : Int} {n : Nat} (h : ¬ m = -1) : optL m (n : Int) = encU n := by unfold optL; rw [if_neg h]; rfl
theorem endM_tV {L0 : List HP} {P : Program} {N : Nat} {E : Env} {L : List HP} {r : Nat} {M : List HP} [h : Tk (pt r (.deferred (some []))) L M] {fn : Func} {t : Nat} {v : Value} (hr : fn.results = #[.tmp t]) (hv : Env.get E t = some v) (he : Ent M L0) :
    bodyQM P N fn (RetV v L0) .ret E [collected r] L := ⟨r, M, rfl, h.h, _, res_one hr hv, _, he, rfl, rfl⟩
attribute [local irreducible] callFunc Go.method J JL JO Ct JG JM JW JW1 JQ JQ0 JS CtD LeavesQ fitsP chkA rowOf ints rowC WrB stage encI optL by8
theorem put_bad (w : Nat) (pre : List UInt8) (x : Ins) (p : Option Addr) (cap : Nat) (hc : x.l.length ≤ cap) (hm : x.l.length ≤ 1000000) (h0 : chkA x ≠ 0) :
    Ct Tryd.prog 40 #[ptr w, .agg (insC x (.slice p x.l.length cap)).toArray] [Vw 1 (.slice p x.l.length cap) x.l.length (ints x.l)] (RetV (.int .i64 (chkA x)) []) := by
  have hk := check_c x p cap hc hm
  generalize chkA x = k at *
  unfold insC at hk ⊢
  refine fn_ret (vs := [_, _]) Tryd.func40 rfl Tryd.ntmps40 (by simp) ?_
  repeat (first | (first | refine J_region ?_ | refine JL_nil ?_ | refine J_seq ?_ | refine J_condT rfl ?_ | refine J_ret ?_) | (first | ((first | refine JL_step rfl ?_); first | refine JO_q (by simp) (JQ_neT rfl rfl (by omega)) rfl ?_ | refine JO_move rfl rfl ?_ | refine JO_assign rfl rfl ?_ | refine JO_loadW rfl (by rfl) rfl ?_ | refine JO_boxA rfl rfl (fun r => ?_) | refine JO_box1 rfl rfl rfl (fun r => ?_) | refine JO_callVP rfl (hk) rfl ?_)))
  exact ret_oneV rfl rfl .nil
set_option maxRecDepth 8000 in
set_option maxHeartbeats 8000000 in
theorem put_ok (w : Nat) (pre : List UInt8) (x : Ins) (p : Option Addr) (cap : Nat) (hc : x.l.length ≤ cap) (hm : x.l.length ≤ 1000) (hpre : pre.length ≤ 900000) (ha : -9223372036854775808 ≤ x.a ∧ x.a ≤ 9223372036854775807) {n : Nat} (hn : x.op = (n : Int)) (hn24 : n ≤ 24) (hfit : fitsP (rowOf n).1 x) :
    Ct Tryd.prog 40 #[ptr w, .agg (insC x (.slice p x.l.length cap)).toArray] [Vw 1 (.slice p x.l.length cap) x.l.length (ints x.l), WrB w pre] (RetV (.int .i64 0) [WrB w (pre ++ bytesL (rowOf n) x)]) := by
  have hk := check_c x p cap hc (by omega)
  rw [chk_ok hn hn24 hfit] at hk
  have hr := rows_c n hn24
  obtain ⟨b1, b2, b3, b4, b5⟩ := row_bounds hn24
  obtain ⟨f1, ⟨f2, f3, f4⟩, f5, f6⟩ : headP (rowOf n).1 x ∧ (inP x.b (rowOf n).1.b ∧ inP x.c (rowOf n).1.c ∧ inP x.d (rowOf n).1.d) ∧ pairP (rowOf n).1 x ∧ okL (rowOf n).1.unlike (rowOf n).1.l x.l := by unfold fitsP at hfit; exact hfit
  have hb := in_bound f2 b1
  have hcc := in_bound f3 b2
  have hd := in_bound f4 b3
  have hmem := okL_mem f6 b4
  clear f1 f2 f3 f4 f5 f6 hfit
  have hby : bytesL (rowOf n) x = UInt8.ofNat x.op.toNat :: (if (rowOf n).2 = true then [] else (if (rowOf n).1.whole = true then encU (foldZ x.a) else []) ++ (optL (rowOf n).1.b x.b ++ (optL (rowOf n).1.c x.c ++ (optL (rowOf n).1.d x.d ++ ((if ((rowOf n).1.least : Int) < ((rowOf n).1.most : Int) then encU x.l.length else []) ++ x.l.flatMap encI))))) := rfl
  generalize bytesL (rowOf n) x = BY at *
  have hcnt := counts_c (rowOf n).1
  have hsml := small_c (rowOf n).1
  have hsm1 := fun c1 c2 n3 => small1_c c1 c2 n3 (rowOf n).1
  generalize rowOf n = R at *
  rcases R with ⟨⟨wh, rb, rc, rd, rl, least, most, un⟩, pl⟩
  rcases x with ⟨op, a, b, c, d, l⟩
  dsimp only at *
  subst hn
  unfold rowC at hr hcnt hsml
  unfold insC at hk ⊢
  dsimp only at *
  have hop : (UInt8.ofNat n).toNat = n := toNat_of (by omega)
  have hbyte := wbyte_B w pre (UInt8.ofNat n) (by omega)
  rw [hop] at hbyte
  refine fn_retM (vs := [_, _]) Tryd.func40 rfl Tryd.ntmps40 (by simp) ?_
  repeat (first | (first | refine J_region ?_ | refine JL_nil ?_ | refine J_seq ?_) | (first | ((first | refine JL_step rfl ?_); first | refine JO_assign rfl rfl ?_ | refine JO_loadW rfl (by rfl) rfl ?_ | refine JO_boxA rfl rfl (fun r => ?_) | refine JO_box1 rfl rfl rfl (fun r => ?_))))
  rename_i n2
  revert r
  intro n3
  repeat (first | (first | refine J_region ?_ | refine JL_nil ?_ | refine J_seq ?_ | refine J_skip ?_ | refine J_condF rfl ?_) | (first | ((first | refine JL_step rfl ?_); first | refine JO_q (by simp) (JQ_neF rfl rfl (by omega)) rfl ?_ | refine JO_q (by simp) (JQ_convF (a := n) rfl (wrap_u8 (by omega))) rfl ?_ | refine JO_move rfl rfl ?_ | refine JO_assign rfl rfl ?_ | refine JO_field0 rfl rfl ?_ | refine JO_load rfl rfl ?_ | refine JO_extract rfl rfl rfl ?_ | refine JO_allocA rfl (fun r => ?_) | refine JO_storeW rfl rfl (by rfl) (by rfl) (by first | decide | simp [Value.oneCell']) rfl ?_ | refine JO_callVP rfl (hk) rfl ?_ | refine JO_callVP rfl (hr) rfl ?_)))
  revert r
  intro n6
  repeat (first | (first | refine J_region ?_ | refine JL_nil ?_ | refine J_seq ?_) | (first | ((first | refine JL_step rfl ?_); first | refine JO_move rfl rfl ?_ | refine JO_callV' rfl (hbyte) rfl ?_)))
  rw [Int.toNat_natCast] at hby
  cases pl with
  | true =>
    repeat (first | (first | refine J_region ?_ | refine JL_nil ?_ | refine J_seq ?_ | refine J_condT rfl ?_ | refine J_ret ?_) | (first | ((first | refine JL_step rfl ?_); first | refine JO_assign rfl rfl ?_)))
    rw [hby, if_pos rfl]
    exact ⟨_, res_one rfl rfl, _, Ent.sel, rfl, rfl⟩
  | false =>
    rw [if_neg (by decide)] at hby
    repeat (first | (first | refine J_region ?_ | refine JL_nil ?_ | refine J_seq ?_ | refine J_skip ?_ | refine J_condF rfl ?_) | (first | ((first | refine JL_step rfl ?_); first | refine JO_field0 rfl rfl ?_ | refine JO_load rfl rfl ?_)))
    refine J_cut [(2, ptr n2), (3, ptr n3), (6, ptr n6)] [pt n2 (.cells #[ptr w] 72 (0, 0)), pt n3 (.cells #[.int .i64 ((n : Nat) : Int), .int .i64 a, .int .i64 b, .int .i64 c, .int .i64 d, .slice p l.length cap] 57 (0, 0)), pt n6 (.cells #[.bool wh, .int .i64 rb, .int .i64 rc, .int .i64 rd, .int .i64 rl, .int .i64 (least : Int), .int .i64 (most : Int), .bool un] 105 (0, 0)), Vw 1 (.slice p l.length cap) l.length (ints l), WrB w ((pre ++ [UInt8.ofNat n]) ++ (if wh = true then encU (foldZ a) else []))] ?_ ?_
    · cases wh with
      | true =>
        have hs := puts_c w a (pre ++ [UInt8.ofNat n]) ha (by simp only [List.length_append, List.length_singleton]; omega)
        repeat (first | (first | refine J_region ?_ | refine JL_nil ?_ | refine J_condT rfl ?_) | (first | ((first | refine JL_step rfl ?_); first | refine JO_callE rfl hs rfl (fun _ _ => ?_) | refine JO_field0 rfl rfl ?_ | refine JO_load rfl rfl ?_)))
        rw [if_pos rfl]
        exact ⟨by (repeat (first | exact sub_nil _ | refine sub_cons rfl ?_)), rfl, Ent.sel⟩
      | false =>
        repeat (first | (first | refine J_skip ?_ | refine J_condF rfl ?_) | (first | ((first | refine JL_step rfl ?_); first | refine JO_move rfl rfl ?_)))
        rw [if_neg (by decide), List.append_nil]
        exact ⟨by (repeat (first | exact sub_nil _ | refine sub_cons rfl ?_)), rfl, Ent.sel⟩
    dsimp only [thn]
    have hby2 : pre ++ BY = ((pre ++ [UInt8.ofNat n]) ++ (if wh = true then encU (foldZ a) else [])) ++ (optL rb b ++ (optL rc c ++ (optL rd d ++ ((if (least : Int) < (most : Int) then encU l.length else []) ++ l.flatMap encI)))) := by rw [hby]; simp
    have hP : ((pre ++ [UInt8.ofNat n]) ++ (if wh = true then encU (foldZ a) else [])).length ≤ 900020 := by
      have := enc_len10 (fold_lt ha)
      simp only [List.length_append, List.length_singleton]
      split
      · omega
      · simp; omega
    have ol1 := opt_len (m := rb) hb
    have ol2 := opt_len (m := rc) hcc
    have ol3 := opt_len (m := rd) hd
    generalize ((pre ++ [UInt8.ofNat n]) ++ (if wh = true then encU (foldZ a) else [])) = P0 at *
    have hsml' := hsml n3
    repeat (first | (first | refine J_region ?_ | refine JL_nil ?_ | refine J_seq ?_ | refine J_block ?_) | (first | ((first | refine JL_step rfl ?_); first | refine JO_callE rfl hsml' rfl (fun cx _ => ?_) | refine JO_loadW rfl (by rfl) rfl ?_)))
    obtain ⟨c1, c2⟩ := cx
    dsimp only
    refine J_range (σ := Unit) (τ := Empty) (fun i _ => stage i [pt n2 (.cells #[ptr w] 72 (0, 0)), pt n3 (.cells #[.int .i64 ((n : Nat) : Int), .int .i64 a, .int .i64 b, .int .i64 c, .int .i64 d, .slice p l.length cap] 57 (0, 0)), pt n6 (.cells #[.bool wh, .int .i64 rb, .int .i64 rc, .int .i64 rd, .int .i64 rl, .int .i64 (least : Int), .int .i64 (most : Int), .bool un] 105 (0, 0)), Vw 1 (.slice p l.length cap) l.length (ints l), WrB w P0] [pt n2 (.cells #[ptr w] 72 (0, 0)), pt n3 (.cells #[.int .i64 ((n : Nat) : Int), .int .i64 a, .int .i64 b, .int .i64 c, .int .i64 d, .slice p l.length cap] 57 (0, 0)), pt n6 (.cells #[.bool wh, .int .i64 rb, .int .i64 rc, .int .i64 rd, .int .i64 rl, .int .i64 (least : Int), .int .i64 (most : Int), .bool un] 105 (0, 0)), Vw 1 (.slice p l.length cap) l.length (ints l), WrB w (P0 ++ optL rb b)] [pt n2 (.cells #[ptr w] 72 (0, 0)), pt n3 (.cells #[.int .i64 ((n : Nat) : Int), .int .i64 a, .int .i64 b, .int .i64 c, .int .i64 d, .slice p l.length cap] 57 (0, 0)), pt n6 (.cells #[.bool wh, .int .i64 rb, .int .i64 rc, .int .i64 rd, .int .i64 rl, .int .i64 (least : Int), .int .i64 (most : Int), .bool un] 105 (0, 0)), Vw 1 (.slice p l.length cap) l.length (ints l), WrB w ((P0 ++ optL rb b) ++ optL rc c)] [pt n2 (.cells #[ptr w] 72 (0, 0)), pt n3 (.cells #[.int .i64 ((n : Nat) : Int), .int .i64 a, .int .i64 b, .int .i64 c, .int .i64 d, .slice p l.length cap] 57 (0, 0)), pt n6 (.cells #[.bool wh, .int .i64 rb, .int .i64 rc, .int .i64 rd, .int .i64 rl, .int .i64 (least : Int), .int .i64 (most : Int), .bool un] 105 (0, 0)), Vw 1 (.slice p l.length cap) l.length (ints l), WrB w (((P0 ++ optL rb b) ++ optL rc c) ++ optL rd d)]) (fun e => e.elim) (fun e => e.elim) rfl (hsm1 c1 c2 n3) ?_ ?_ () ?_ ?_ ?_ ?_
    · intro q hq
      simp only [smallV, List.mem_cons, List.not_mem_nil, or_false] at hq
      rcases hq with rfl | rfl | rfl <;> rfl
    · decide
    · rw [stage_0]
      exact Ent.sel (K := [pt n2 (.cells #[ptr w] 72 (0, 0)), pt n3 (.cells #[.int .i64 ((n : Nat) : Int), .int .i64 a, .int .i64 b, .int .i64 c, .int .i64 d, .slice p l.length cap] 57 (0, 0)), pt n6 (.cells #[.bool wh, .int .i64 rb, .int .i64 rc, .int .i64 rd, .int .i64 rl, .int .i64 (least : Int), .int .i64 (most : Int), .bool un] 105 (0, 0)), Vw 1 (.slice p l.length cap) l.length (ints l), WrB w P0, pt c1 (.cells #[ptr n3] 109 (0, 0)), RowP c2 ⟨wh, rb, rc, rd, rl, least, most, un⟩])
    · intro lo rec i q s hq
      match i, hq with
      | 0, hq =>
        obtain rfl : [pf n3 2, Value.int .i64 rb] = q := Option.some.inj hq
        dsimp only
        rw [stage_0]
        by_cases hz : rb = -1
        · repeat (first | (first | refine J_region ?_ | refine JL_nil ?_ | refine J_seq ?_ | refine J_block ?_ | refine J_skip ?_ | refine J_condF rfl ?_) | (first | ((first | refine JL_step rfl ?_); first | refine JO_q (by simp) (JQ_neF rfl rfl (by omega)) rfl ?_ | refine JO_move rfl rfl ?_ | refine JO_assign rfl rfl ?_)))
          refine ⟨(), ?_⟩
          show Ent _ (_ :: stage 1 _ _ _ _)
          rw [stage_1, optL_none hz, List.append_nil]
          exact .sel
        · obtain ⟨m, rfl⟩ := Int.eq_ofNat_of_zero_le hb.1
          have hp := putu_c w m P0 (by omega) (by first | omega | (simp only [List.length_append]; omega))
          repeat (first | (first | refine J_region ?_ | refine JL_nil ?_ | refine J_seq ?_ | refine J_block ?_ | refine J_condT rfl ?_) | (first | ((first | refine JL_step rfl ?_); first | refine JO_q (by simp) (JQ_neT rfl rfl (by omega)) rfl ?_ | refine JO_move rfl rfl ?_ | refine JO_assign rfl rfl ?_)))
          refine J_regionW none [pt n2 (.cells #[ptr w] 72 (0, 0)), pt n3 (.cells #[.int .i64 ((n : Nat) : Int), .int .i64 a, .int .i64 ((m : Nat) : Int), .int .i64 c, .int .i64 d, .slice p l.length cap] 57 (0, 0))] Ent.sel ?_
          repeat' (first | refine JW_fin rfl ?_ | refine JW_n rfl rfl (by kernel_rfl) (by kernel_rfl) (by kernel_rfl) (by kernel_rfl) rfl (by first | exact JQ_convF (a := m) rfl (wrap_u64 (by omega)) | exact JQ_nilCheck rfl | exact JQ_move rfl | exact JQ_loadB rfl) ?_ | refine JW_only rfl ?_ | refine JW1_jo rfl rfl (JO_callE rfl hp rfl (fun _ _ => ⟨by first | exact (fun _ => Ent.sel), ?_⟩)))
          refine ⟨(), ?_⟩
          show Ent _ (_ :: stage 1 _ _ _ _)
          rw [stage_1, optL_some hz]
          exact .sel
      | 1, hq =>
        obtain rfl : [pf n3 3, Value.int .i64 rc] = q := Option.some.inj hq
        dsimp only
        rw [stage_1]
        by_cases hz : rc = -1
        · repeat (first | (first | refine J_region ?_ | refine JL_nil ?_ | refine J_seq ?_ | refine J_block ?_ | refine J_skip ?_ | refine J_condF rfl ?_) | (first | ((first | refine JL_step rfl ?_); first | refine JO_q (by simp) (JQ_neF rfl rfl (by omega)) rfl ?_ | refine JO_move rfl rfl ?_ | refine JO_assign rfl rfl ?_)))
          refine ⟨(), ?_⟩
          show Ent _ (_ :: stage 2 _ _ _ _)
          rw [stage_2, optL_none hz, List.append_nil]
          exact .sel
        · obtain ⟨m, rfl⟩ := Int.eq_ofNat_of_zero_le hcc.1
          have hp := putu_c w m (P0 ++ optL rb b) (by omega) (by first | omega | (simp only [List.length_append]; omega))
          repeat (first | (first | refine J_region ?_ | refine JL_nil ?_ | refine J_seq ?_ | refine J_block ?_ | refine J_condT rfl ?_) | (first | ((first | refine JL_step rfl ?_); first | refine JO_q (by simp) (JQ_neT rfl rfl (by omega)) rfl ?_ | refine JO_move rfl rfl ?_ | refine JO_assign rfl rfl ?_)))
          refine J_regionW none [pt n2 (.cells #[ptr w] 72 (0, 0)), pt n3 (.cells #[.int .i64 ((n : Nat) : Int), .int .i64 a, .int .i64 b, .int .i64 ((m : Nat) : Int), .int .i64 d, .slice p l.length cap] 57 (0, 0))] Ent.sel ?_
          repeat' (first | refine JW_fin rfl ?_ | refine JW_n rfl rfl (by kernel_rfl) (by kernel_rfl) (by kernel_rfl) (by kernel_rfl) rfl (by first | exact JQ_convF (a := m) rfl (wrap_u64 (by omega)) | exact JQ_nilCheck rfl | exact JQ_move rfl | exact JQ_loadB rfl) ?_ | refine JW_only rfl ?_ | refine JW1_jo rfl rfl (JO_callE rfl hp rfl (fun _ _ => ⟨by first | exact (fun _ => Ent.sel), ?_⟩)))
          refine ⟨(), ?_⟩
          show Ent _ (_ :: stage 2 _ _ _ _)
          rw [stage_2, optL_some hz]
          exact .sel
      | 2, hq =>
        obtain rfl : [pf n3 4, Value.int .i64 rd] = q := Option.some.inj hq
        dsimp only
        rw [stage_2]
        by_cases hz : rd = -1
        · repeat (first | (first | refine J_region ?_ | refine JL_nil ?_ | refine J_seq ?_ | refine J_block ?_ | refine J_skip ?_ | refine J_condF rfl ?_) | (first | ((first | refine JL_step rfl ?_); first | refine JO_q (by simp) (JQ_neF rfl rfl (by omega)) rfl ?_ | refine JO_move rfl rfl ?_ | refine JO_assign rfl rfl ?_)))
          refine ⟨(), ?_⟩
          show Ent _ (_ :: stage 3 _ _ _ _)
          rw [stage_3, optL_none hz, List.append_nil]
          exact .sel
        · obtain ⟨m, rfl⟩ := Int.eq_ofNat_of_zero_le hd.1
          have hp := putu_c w m ((P0 ++ optL rb b) ++ optL rc c) (by omega) (by first | omega | (simp only [List.length_append]; omega))
          repeat (first | (first | refine J_region ?_ | refine JL_nil ?_ | refine J_seq ?_ | refine J_block ?_ | refine J_condT rfl ?_) | (first | ((first | refine JL_step rfl ?_); first | refine JO_q (by simp) (JQ_neT rfl rfl (by omega)) rfl ?_ | refine JO_move rfl rfl ?_ | refine JO_assign rfl rfl ?_)))
          refine J_regionW none [pt n2 (.cells #[ptr w] 72 (0, 0)), pt n3 (.cells #[.int .i64 ((n : Nat) : Int), .int .i64 a, .int .i64 b, .int .i64 c, .int .i64 ((m : Nat) : Int), .slice p l.length cap] 57 (0, 0))] Ent.sel ?_
          repeat' (first | refine JW_fin rfl ?_ | refine JW_n rfl rfl (by kernel_rfl) (by kernel_rfl) (by kernel_rfl) (by kernel_rfl) rfl (by first | exact JQ_convF (a := m) rfl (wrap_u64 (by omega)) | exact JQ_nilCheck rfl | exact JQ_move rfl | exact JQ_loadB rfl) ?_ | refine JW_only rfl ?_ | refine JW1_jo rfl rfl (JO_callE rfl hp rfl (fun _ _ => ⟨by first | exact (fun _ => Ent.sel), ?_⟩)))
          refine ⟨(), ?_⟩
          show Ent _ (_ :: stage 3 _ _ _ _)
          rw [stage_3, optL_some hz]
          exact .sel
      | k + 3, hq => simp [smallV] at hq
    · intro rr s
      rw [show (smallV n3 ⟨wh, rb, rc, rd, rl, least, most, un⟩).length = 3 from rfl, stage_3]
      rw [show pre ++ BY = (((P0 ++ optL rb b) ++ optL rc c) ++ optL rd d) ++ ((if (least : Int) < (most : Int) then encU l.length else []) ++ l.flatMap encI) from by rw [hby2]; simp]
      have hA : (((P0 ++ optL rb b) ++ optL rc c) ++ optL rd d).length ≤ 900060 := by simp only [List.length_append]; omega
      generalize (((P0 ++ optL rb b) ++ optL rc c) ++ optL rd d) = A3 at *
      repeat (first | (first | refine J_region ?_ | refine JL_nil ?_ | refine J_seq ?_) | (first | ((first | refine JL_step rfl ?_); first | refine JO_loadW rfl (by rfl) rfl ?_ | refine JO_callVP rfl (hcnt) rfl ?_)))
      refine J_cut [(2, ptr n2), (3, ptr n3), (6, ptr n6)] [pt rr (.deferred (some [])), pt n2 (.cells #[ptr w] 72 (0, 0)), pt n3 (.cells #[.int .i64 ((n : Nat) : Int), .int .i64 a, .int .i64 b, .int .i64 c, .int .i64 d, .slice p l.length cap] 57 (0, 0)), pt n6 (.cells #[.bool wh, .int .i64 rb, .int .i64 rc, .int .i64 rd, .int .i64 rl, .int .i64 (least : Int), .int .i64 (most : Int), .bool un] 105 (0, 0)), Vw 1 (.slice p l.length cap) l.length (ints l), WrB w (A3 ++ (if (least : Int) < (most : Int) then encU l.length else []))] ?_ ?_
      · refine J_condP rfl (fun hlm => ?_) (fun hlm => ?_)
        · have hp := putu_c w l.length A3 (by omega) (by omega)
          rw [if_pos hlm]
          repeat (first | (first | refine J_region ?_ | refine JL_nil ?_) | (first | ((first | refine JL_step rfl ?_); first | refine JO_q (by simp) (JQ_convF (a := l.length) rfl (wrap_u64 (by omega))) rfl ?_ | refine JO_callE rfl hp rfl (fun _ _ => ?_) | refine JO_len rfl rfl ?_ | refine JO_field0 rfl rfl ?_ | refine JO_load rfl rfl ?_)))
          exact ⟨by (repeat (first | exact sub_nil _ | refine sub_cons rfl ?_)), rfl, Ent.sel⟩
        · rw [if_neg hlm, List.append_nil]
          repeat (first | (first | refine J_skip ?_) | (first | ((first | refine JL_step rfl ?_); first | refine JO_move rfl rfl ?_)))
          exact ⟨by (repeat (first | exact sub_nil _ | refine sub_cons rfl ?_)), rfl, Ent.sel⟩
      dsimp only [thn]
      rw [← List.append_assoc]
      have hA4 : (A3 ++ (if (least : Int) < (most : Int) then encU l.length else [])).length ≤ 900070 := by
        have := enc_len10 (n := l.length) (by omega)
        rw [List.length_append]
        split
        · omega
        · simp; omega
      generalize A3 ++ (if (least : Int) < (most : Int) then encU l.length else []) = A4 at *
      repeat (first | (first | refine J_region ?_ | refine JL_nil ?_ | refine J_seq ?_ | refine J_block ?_) | (first | ((first | refine JL_step rfl ?_); first | refine JO_move rfl rfl ?_ | refine JO_len rfl rfl ?_ | refine JO_field0 rfl rfl ?_ | refine JO_load rfl rfl ?_)))
      refine J_loop (β := { i : Nat // i ≤ l.length }) (fun i => [(2, ptr n2), (3, ptr n3), (56, .slice p l.length cap), (57, .int .i64 (l.length : Int)), (58, .int .i64 (i.1 : Int))]) (fun _ => [collected rr]) (fun i => [pt rr (.deferred (some [])), pt n2 (.cells #[ptr w] 72 (0, 0)), pt n3 (.cells #[.int .i64 ((n : Nat) : Int), .int .i64 a, .int .i64 b, .int .i64 c, .int .i64 d, .slice p l.length cap] 57 (0, 0)), pt n6 (.cells #[.bool wh, .int .i64 rb, .int .i64 rc, .int .i64 rd, .int .i64 rl, .int .i64 (least : Int), .int .i64 (most : Int), .bool un] 105 (0, 0)), Vw 1 (.slice p l.length cap) l.length (ints l), WrB w (A4 ++ (l.take i.1).flatMap encI)]) (fun i => l.length - i.1) ⟨0, by omega⟩ ?_ rfl (by rw [show A4 ++ (l.take 0).flatMap encI = A4 from by simp]; exact Ent.sel) ?_
      · (repeat (first | exact sub_nil _ | refine sub_cons rfl ?_))
      rintro ⟨i, hi⟩
      dsimp only
      by_cases hil : i < l.length
      · obtain ⟨z, hz⟩ : ∃ z, l[i]? = some z := ⟨_, List.getElem?_eq_getElem hil⟩
        have hz1 := hmem z (List.mem_of_getElem? hz)
        obtain ⟨m, rfl⟩ := Int.eq_ofNat_of_zero_le hz1.1
        have hfl := flat_len (l := l.take i) (fun n hn => hmem n (List.mem_of_mem_take hn))
        have hp := putu_c w m (A4 ++ (l.take i).flatMap encI) (by omega) (by rw [List.length_take] at hfl; rw [List.length_append]; omega)
        repeat (first | (first | refine J_region ?_ | refine JL_nil ?_ | refine J_seq ?_ | refine J_block ?_ | refine J_skip ?_ | refine J_condT rfl ?_) | (first | ((first | refine JL_step rfl ?_); first | refine JO_q (by simp) (JQ_lssT rfl rfl (by omega)) rfl ?_ | refine JO_indexV1 (cs := ints l) rfl rfl hil _ (ints_get hz) rfl fun b1 o1 hl1 => ?_ | refine JO_loadL rfl hl1 rfl ?_ | refine JO_q (by simp) (JQ_convF (a := m) rfl (wrap_u64 (by omega))) rfl ?_ | refine JO_callE rfl hp rfl (fun _ _ => ?_) | refine JO_addN (b := 1) rfl rfl (by omega) rfl ?_ | refine JO_move rfl rfl ?_ | refine JO_assign rfl rfl ?_ | refine JO_load rfl rfl ?_)))
        refine ⟨⟨i + 1, by omega⟩, by simp only; omega, by (repeat (first | exact sub_nil _ | refine sub_cons rfl ?_)), rfl, ?_⟩
        rw [show A4 ++ (l.take (i + 1)).flatMap encI = (A4 ++ (l.take i).flatMap encI) ++ encU m from by rw [List.take_add_one, hz]; simp [encI]]
        exact Ent.sel
      · obtain rfl : i = l.length := by omega
        rw [List.take_length]
        repeat (first | (first | refine J_region ?_ | refine JL_nil ?_ | refine J_seq ?_ | refine J_condF rfl ?_ | refine J_exit ?_ | refine J_ret ?_) | (first | ((first | refine JL_step rfl ?_); first | refine JO_q (by simp) (JQ_lssF rfl rfl (by omega)) rfl ?_ | refine JO_assign rfl rfl ?_)))
        exact endM_tV rfl rfl Ent.sel
    · intro rr s
      exact s.elim
end Go.Proofs.YtfelcdbhlahehaaDoor
