/- Layer 3: SectBack's walk. -/
import Derived.Test.YtfelcdbhlahehaaDoorM13
namespace Go.Proofs.YtfelcdbhlahehaaDoor
open Go Go.Sp
theorem JQ_sliceE {P : Program} {N : Nat} {E : Env} {D : List Deferred} {L : List HP} {d : Option Nat} {ty : TypeId} {pos : String} {after : Array Edge} {g : Option (Nat × Bool)} {t : TypeId} [TU P t .string] {x lo hi : Operand} {bs cs : List UInt8} {l h : Nat} {ik ik2 : IntKind} (hx : ev E x = some (str bs)) (hl : ev E lo = some (.int ik (l : Int))) (hh : ev E hi = some (.int ik2 (h : Int))) (h1 : l ≤ h) (h2 : h ≤ bs.length) (e : (bs.take h).drop l = cs) :
    JQ P N ⟨d, .slice t x (some lo) (some hi) none, ty, pos, after, g⟩ E D L (str cs) := e ▸ JQ_sliceS hx hl hh h1 h2
theorem mid_of {a A x R : List UInt8} (h : a = A ++ (x ++ R)) : (a.take (A.length + x.length)).drop A.length = x ∧ A.length + x.length ≤ a.length := by
  rw [h]
  exact ⟨slice_mid A x R, by simp⟩
attribute [local irreducible] callFunc Go.method J JL JO JR JR1 JRl Ct JG JM JM1 JQ JQ0 JS CtD LeavesQ RdB Er Gl by8 ibits joinA joinL splE s1A s2A s3A cut300 noughts stage
set_option maxRecDepth 8000 in
set_option maxHeartbeats 8000000 in
theorem sectBack_c (x y z s : List UInt8) (at_ by_ : Nat) (stay : Int) (hs : s.length ≤ maxLen) (hx : x.length ≤ maxLen) (hy : y.length ≤ maxLen) (hz : z.length ≤ maxLen) (hat : at_ < 65536) (te : TypeId) (fz : Nat × Nat) :
    Ct Tryd.prog 5 #[.agg #[str x, str y, str z], str s, .agg #[.int .u16 (at_ : Int), .int .u8 (by_ : Int), .int .i64 stay]] [Gl te fz] (RetV (.bool true) []) := by
  have ht := texts_c x y z 0 (by decide) hx hy hz
  have h1 := cut300_len x
  have h2 := cut300_len y
  have h3 := cut300_len z
  rw [nought0, List.append_nil] at ht
  generalize cut300 x = X at *
  generalize cut300 y = Y at *
  generalize cut300 z = Z at *
  have hj := join_c X Y Z (by omega) (by omega) (by omega)
  rw [join_ok X Y Z h1 h2 h3] at hj
  have hl := joinL_len X Y Z (by omega) (by omega) (by omega)
  have sj := (spl_join X Y Z (by omega) (by omega) (by omega)).1
  have sl := spl_lay X Y Z [] (by omega) (by omega) (by omega)
  rw [List.append_nil] at sl
  have m1 := sl.2.2.1
  have m2 := sl.2.2.2.2.2.1
  have m3 := sl.2.2.2.2.2.2.2.2.1
  clear sl
  generalize joinL X Y Z = m at *
  dsimp only at hj
  have hmn : min s.length 2000 ≤ s.length := Nat.min_le_left _ _
  have hsl : (s.take (min s.length 2000)).length ≤ 2000 := by rw [List.length_take]; omega
  have tu := turned_c m at_ by_ stay hat (by omega)
  have w := works3_c te fz
  refine fn_ret (vs := [_, _, _]) Tryd.func5 rfl Tryd.ntmps5 (by simp) ?_
  repeat (first | (first | refine J_region ?_ | refine JL_nil ?_ | refine J_seq ?_) | (first | ((first | refine JL_step rfl ?_); first | refine JO_assign rfl rfl ?_ | refine JO_boxA rfl rfl (fun r => ?_))))
  rename_i n3
  revert r
  intro n5
  repeat (first | (first | refine J_region ?_ | refine JL_nil ?_ | refine J_seq ?_ | refine J_skip ?_ | refine J_condF rfl ?_) | (first | ((first | refine JL_step rfl ?_); first | refine JO_q (by simp) (JQ_neI0 rfl rfl) rfl ?_ | refine JO_move rfl rfl ?_ | refine JO_assign rfl rfl ?_ | refine JO_loadW rfl (by rfl) rfl ?_ | refine JO_not rfl rfl ?_ | refine JO_extract rfl rfl rfl ?_ | refine JO_allocA rfl (fun r => ?_) | refine JO_storeW rfl rfl (by rfl) (by rfl) (by first | decide | simp [Value.oneCell']) rfl ?_ | refine JO_callVP rfl (ht) rfl ?_ | refine JO_callVP rfl (hj) rfl ?_ | refine JO_callVP rfl (w) rfl ?_)))
  revert r
  intro n7
  refine J_cutX (α := { v : List UInt8 × Nat // v.1.length ≤ m.length }) (fun v => [(7, ptr n7), (10, ptr v.1.2)]) (fun v => [pt n7 (.cells #[str X, str Y, str Z] 22 (0, 0)), pt v.1.2 (.cells #[str m, str v.1.1, str (s.take (min s.length 2000))] 22 (0, 0))]) ?_ ?_
  · refine J_calm ?_
    refine J_regionM 11 [pt n5 (.cells #[.int .u16 (at_ : Int), .int .u8 (by_ : Int), .int .i64 stay] 25 (0, 0)), pt n7 (.cells #[str X, str Y, str Z] 22 (0, 0))] Ent.sel ?_
    (refine JM_take 0 rfl rfl (by kernel_rfl) (by kernel_rfl) (by kernel_rfl) rfl rfl rfl rfl Ent.sel (by first | exact JQ_move rfl) ?_; refine JM_take 1 rfl rfl (by kernel_rfl) (by kernel_rfl) (by kernel_rfl) rfl rfl rfl rfl Ent.sel (by first | exact JQ_move rfl) ?_; refine JM_take 4 rfl rfl (by kernel_rfl) (by kernel_rfl) (by kernel_rfl) rfl rfl rfl rfl Ent.sel (by first | exact JQ_move rfl) ?_; refine JM_take 5 rfl rfl (by kernel_rfl) (by kernel_rfl) (by kernel_rfl) rfl rfl rfl rfl Ent.sel (by first | exact JQ_move rfl) ?_; refine JM_take 6 rfl rfl (by kernel_rfl) (by kernel_rfl) (by kernel_rfl) rfl rfl rfl rfl Ent.sel (by first | exact JQ_lenB rfl) ?_; refine JM_take 7 rfl rfl (by kernel_rfl) (by kernel_rfl) (by kernel_rfl) rfl rfl rfl rfl Ent.sel (by first | exact JQ_minN (n := 2000) rfl rfl) ?_; refine JM_take 8 rfl rfl (by kernel_rfl) (by kernel_rfl) (by kernel_rfl) rfl rfl rfl rfl Ent.sel (by first | exact JQ_headS (bs := s) (h := min s.length 2000) rfl rfl hmn) ?_)
    repeat' (first | refine JM_fin rfl ?_ | refine JM_two rfl ?_ ?_ | refine JM_only rfl ?_ | refine JM1_jo rfl rfl (by first | exact tame2_call | exact tame_plain plain_store | exact tame_plain (fun _ _ _ _ h => .inr (run_then_value _ _ _ _ h))) (JO_loadW rfl (by rfl) rfl ⟨by first | exact (fun _ => Ent.sel), ?_⟩) | refine JM1_jo rfl rfl (by first | exact tame2_call | exact tame_plain plain_store | exact tame_plain (fun _ _ _ _ h => .inr (run_then_value _ _ _ _ h))) (JO_callE rfl tu rfl (fun u hu => ⟨by first | exact (fun _ => Ent.sel), ?_⟩)) | refine JM1_jo rfl rfl (by first | exact tame_plain plain_store | exact tame_plain (fun _ _ _ _ h => .inr (run_then_value _ _ _ _ h))) (JO_allocA rfl (fun r => ⟨by first | exact (fun _ => Ent.nil) | exact (fun _ => Ent.sel), ?_⟩)) | refine JM1_jo rfl rfl (by first | exact tame_plain plain_store | exact tame_plain (fun _ _ _ _ h => .inr (run_then_value _ _ _ _ h))) (JO_buildA (cs := [str m, str u, str (s.take (min s.length 2000))]) rfl rfl rfl ⟨by first | exact (fun _ => Ent.sel), ?_⟩) | refine JM1_jo rfl rfl (by first | exact tame_plain plain_store) (JO_storeW rfl rfl (by rfl) (by rfl) (by simp [Value.oneCell']) rfl ⟨by first | exact (fun h => absurd h (by decide)), ?_⟩))
    all_goals exact ⟨⟨(_, _), by assumption⟩, by (repeat (first | exact sub_nil _ | refine sub_cons rfl ?_)), rfl, Ent.sel⟩
  rintro ⟨⟨u, n10⟩, hu⟩
  dsimp only [thn] at hu ⊢
  generalize s.take (min s.length 2000) = s2 at *
  repeat (first | (first | refine J_region ?_ | refine JL_nil ?_ | refine J_seq ?_ | refine J_block ?_) | (first | ((first | refine JL_step rfl ?_); first | refine JO_assign rfl rfl ?_)))
  refine J_loop (β := { i : Nat // i ≤ 3 }) (fun i => [(7, ptr n7), (10, ptr n10), (11, .int .i64 (i.1 : Int))]) (fun _ => [])
    (fun _ => [pt n7 (.cells #[str X, str Y, str Z] 22 (0, 0)), pt n10 (.cells #[str m, str u, str s2] 22 (0, 0))]) (fun i => 3 - i.1) ⟨0, by simp⟩ ?_ rfl Ent.sel ?_
  · (repeat (first | exact sub_nil _ | refine sub_cons rfl ?_))
  rintro ⟨i, hi⟩
  dsimp only
  by_cases hi3 : i = 3
  · subst hi3
    repeat (first | (first | refine J_region ?_ | refine JL_nil ?_ | refine J_seq ?_ | refine J_condF rfl ?_ | refine J_exit ?_ | refine J_ret ?_) | (first | ((first | refine JL_step rfl ?_); first | refine JO_q (by simp) (JQ_lssF rfl rfl (by omega)) rfl ?_ | refine JO_move rfl rfl ?_ | refine JO_assign rfl rfl ?_)))
    exact ret_oneV rfl rfl .nil
  obtain ⟨a, hga, hal, ham⟩ : ∃ a : List UInt8, ([str m, str u, str s2] : List Value)[i]? = some (str a) ∧ a.length ≤ 1000000 ∧ (i = 0 → a = m) := by
    match i, hi, hi3 with
    | 0, _, _ => exact ⟨m, rfl, by omega, fun _ => rfl⟩
    | 1, _, _ => exact ⟨u, rfl, by omega, fun h => by cases h⟩
    | 2, _, _ => exact ⟨s2, rfl, by omega, fun h => by cases h⟩
    | k + 3, h, h' => exact absurd h (by omega)
  by_cases hZ : (splE a).1 = 0
  · have sp := split_ok a hal hZ
    have jb := join_back hZ
    obtain ⟨⟨P1, R1, g1, g2⟩, ⟨P2, R2, g3, g4⟩, ⟨P3, R3, g5, g6⟩⟩ := spl_at hZ
    obtain ⟨_, z1, z2, z3⟩ := spl_all hZ
    rw [g2, g4, g6] at sp
    have hmm : i = 0 → (s1A a).part = X ∧ (s2A a).part = Y ∧ (s3A a).part = Z := fun h => by rw [ham h]; exact ⟨m1, m2, m3⟩
    clear g2 g4 g6
    generalize (s1A a).part = x1 at *
    generalize (s2A a).part = x2 at *
    generalize (s3A a).part = x3 at *
    obtain ⟨w1, v1⟩ := mid_of g1
    obtain ⟨w2, v2⟩ := mid_of g3
    obtain ⟨w3, v3⟩ := mid_of g5
    have jn := join_c x1 x2 x3 (by omega) (by omega) (by omega)
    rw [jb] at jn
    repeat (first | (first | refine J_region ?_ | refine JL_nil ?_ | refine J_seq ?_ | refine J_block ?_ | refine J_skip ?_ | refine J_condT rfl ?_ | refine J_condF rfl ?_) | (first | ((first | refine JL_step rfl ?_); first | refine JO_q (by simp) (JQ_indexPK i (j := i) rfl rfl (by omega) (by omega)) rfl ?_ | refine JO_loadL rfl (lds_block hga) rfl ?_ | refine JO_callE rfl sp rfl (fun p _ => ?_) | refine JO_q (by simp) (JQ_neIf0 rfl) rfl ?_ | refine JO_q (by simp) (JQ_lssT rfl rfl (by omega)) rfl ?_ | refine JO_move rfl rfl ?_ | refine JO_assign rfl rfl ?_ | refine JO_extract rfl rfl rfl ?_ | refine JO_allocA rfl (fun r => ?_) | refine JO_storeW rfl rfl (by rfl) (by rfl) (by first | decide | simp [Value.oneCell']) rfl ?_)))
    obtain ⟨p1, p2, p3⟩ := p
    dsimp only
    rename_i n12
    revert r
    intro n14
    refine J_loop (β := { k : Nat // k ≤ 3 }) (fun k => [(7, ptr n7), (10, ptr n10), (11, .int .i64 (i : Int)), (12, ptr n12), (14, ptr n14), (15, .int .i64 (k.1 : Int))]) (fun _ => [])
      (fun k => stage k.1 [pt n7 (.cells #[str X, str Y, str Z] 22 (0, 0)), pt n10 (.cells #[str m, str u, str s2] 22 (0, 0)), pt n12 (.cells #[ptr p1, ptr p2, ptr p3] 37 (0, 0)), pt n14 (.cells #[str [], str [], str []] 22 (0, 0)), RdB p1 x1 (P1.length : Int), RdB p2 x2 (P2.length : Int), RdB p3 x3 (P3.length : Int)] [pt n7 (.cells #[str X, str Y, str Z] 22 (0, 0)), pt n10 (.cells #[str m, str u, str s2] 22 (0, 0)), pt n12 (.cells #[ptr p1, ptr p2, ptr p3] 37 (0, 0)), pt n14 (.cells #[str x1, str [], str []] 22 (0, 0)), RdB p2 x2 (P2.length : Int), RdB p3 x3 (P3.length : Int)] [pt n7 (.cells #[str X, str Y, str Z] 22 (0, 0)), pt n10 (.cells #[str m, str u, str s2] 22 (0, 0)), pt n12 (.cells #[ptr p1, ptr p2, ptr p3] 37 (0, 0)), pt n14 (.cells #[str x1, str x2, str []] 22 (0, 0)), RdB p3 x3 (P3.length : Int)] [pt n7 (.cells #[str X, str Y, str Z] 22 (0, 0)), pt n10 (.cells #[str m, str u, str s2] 22 (0, 0)), pt n12 (.cells #[ptr p1, ptr p2, ptr p3] 37 (0, 0)), pt n14 (.cells #[str x1, str x2, str x3] 22 (0, 0))]) (fun k => 3 - k.1) ⟨0, by simp⟩ ?_ rfl (by rw [stage_0]; exact Ent.sel (K := [pt n7 (.cells #[str X, str Y, str Z] 22 (0, 0)), pt n10 (.cells #[str m, str u, str s2] 22 (0, 0)), pt n12 (.cells #[ptr p1, ptr p2, ptr p3] 37 (0, 0)), pt n14 (.cells #[str [], str [], str []] 22 (0, 0)), RdB p1 x1 (P1.length : Int), RdB p2 x2 (P2.length : Int), RdB p3 x3 (P3.length : Int)])) ?_
    · (repeat (first | exact sub_nil _ | refine sub_cons rfl ?_))
    rintro ⟨k, hk⟩
    dsimp only
    match k, hk with
      | 0, _ =>
        rw [stage_0]
        have rr := rest_c p1 x1 (P1.length : Int) (by omega)
        repeat (first | (first | refine J_region ?_ | refine JL_nil ?_ | refine J_seq ?_ | refine J_block ?_ | refine J_skip ?_ | refine J_condT rfl ?_ | refine J_condF rfl ?_) | (first | ((first | refine JL_step rfl ?_ | refine JL_take rfl rfl ?_); first | refine JO_q (by simp) (JQ_indexPK 0 (j := 0) rfl rfl (by omega) rfl) rfl ?_ | refine JO_q (by simp) (JQ_indexPK i (j := i) rfl rfl (by omega) (by omega)) rfl ?_ | refine JO_loadL rfl (lds_block hga) rfl ?_ | refine JO_q (by simp) (JQ_eqP rfl) rfl ?_ | refine JO_q (by simp) (JQ_lenB rfl) rfl ?_ | refine JO_addN (a := P1.length) (b := x1.length) rfl rfl (by omega) rfl ?_ | refine JO_addN (a := 0) (b := 1) rfl rfl (by omega) rfl ?_ | refine JO_q (by simp) (JQ_sliceE (bs := a) (l := P1.length) (h := P1.length + x1.length) rfl rfl rfl (by omega) (by omega) w1) rfl ?_ | refine JO_q (by simp) (JQ_neS0 rfl rfl) rfl ?_ | refine JO_q (by simp) (JQ_lssT rfl rfl (by omega)) rfl ?_ | refine JO_q (by simp) (JQ_gtrF rfl rfl (by omega)) rfl ?_ | refine JO_move rfl rfl ?_ | refine JO_assign rfl rfl ?_ | refine JO_load rfl rfl ?_ | refine JO_pickF rfl rfl rfl ?_ | refine JO_extract rfl rfl rfl ?_ | refine JO_store rfl rfl (by first | rfl | assumption) rfl ?_ | refine JO_callV' rfl (rr) rfl ?_)))
        exact ⟨⟨1, by omega⟩, by simp, by (repeat (first | exact sub_nil _ | refine sub_cons rfl ?_)), rfl, by rw [stage_1]; exact Ent.sel (K := [pt n7 (.cells #[str X, str Y, str Z] 22 (0, 0)), pt n10 (.cells #[str m, str u, str s2] 22 (0, 0)), pt n12 (.cells #[ptr p1, ptr p2, ptr p3] 37 (0, 0)), pt n14 (.cells #[str x1, str [], str []] 22 (0, 0)), RdB p2 x2 (P2.length : Int), RdB p3 x3 (P3.length : Int)])⟩
      | 1, _ =>
        rw [stage_1]
        have rr := rest_c p2 x2 (P2.length : Int) (by omega)
        repeat (first | (first | refine J_region ?_ | refine JL_nil ?_ | refine J_seq ?_ | refine J_block ?_ | refine J_skip ?_ | refine J_condT rfl ?_ | refine J_condF rfl ?_) | (first | ((first | refine JL_step rfl ?_ | refine JL_take rfl rfl ?_); first | refine JO_q (by simp) (JQ_indexPK 1 (j := 1) rfl rfl (by omega) rfl) rfl ?_ | refine JO_q (by simp) (JQ_indexPK i (j := i) rfl rfl (by omega) (by omega)) rfl ?_ | refine JO_loadL rfl (lds_block hga) rfl ?_ | refine JO_q (by simp) (JQ_eqP rfl) rfl ?_ | refine JO_q (by simp) (JQ_lenB rfl) rfl ?_ | refine JO_addN (a := P2.length) (b := x2.length) rfl rfl (by omega) rfl ?_ | refine JO_addN (a := 1) (b := 1) rfl rfl (by omega) rfl ?_ | refine JO_q (by simp) (JQ_sliceE (bs := a) (l := P2.length) (h := P2.length + x2.length) rfl rfl rfl (by omega) (by omega) w2) rfl ?_ | refine JO_q (by simp) (JQ_neS0 rfl rfl) rfl ?_ | refine JO_q (by simp) (JQ_lssT rfl rfl (by omega)) rfl ?_ | refine JO_q (by simp) (JQ_gtrF rfl rfl (by omega)) rfl ?_ | refine JO_move rfl rfl ?_ | refine JO_assign rfl rfl ?_ | refine JO_load rfl rfl ?_ | refine JO_pickF rfl rfl rfl ?_ | refine JO_extract rfl rfl rfl ?_ | refine JO_store rfl rfl (by first | rfl | assumption) rfl ?_ | refine JO_callV' rfl (rr) rfl ?_)))
        exact ⟨⟨2, by omega⟩, by simp, by (repeat (first | exact sub_nil _ | refine sub_cons rfl ?_)), rfl, by rw [stage_2]; exact Ent.sel (K := [pt n7 (.cells #[str X, str Y, str Z] 22 (0, 0)), pt n10 (.cells #[str m, str u, str s2] 22 (0, 0)), pt n12 (.cells #[ptr p1, ptr p2, ptr p3] 37 (0, 0)), pt n14 (.cells #[str x1, str x2, str []] 22 (0, 0)), RdB p3 x3 (P3.length : Int)])⟩
      | 2, _ =>
        rw [stage_2]
        have rr := rest_c p3 x3 (P3.length : Int) (by omega)
        repeat (first | (first | refine J_region ?_ | refine JL_nil ?_ | refine J_seq ?_ | refine J_block ?_ | refine J_skip ?_ | refine J_condT rfl ?_ | refine J_condF rfl ?_) | (first | ((first | refine JL_step rfl ?_ | refine JL_take rfl rfl ?_); first | refine JO_q (by simp) (JQ_indexPK 2 (j := 2) rfl rfl (by omega) rfl) rfl ?_ | refine JO_q (by simp) (JQ_indexPK i (j := i) rfl rfl (by omega) (by omega)) rfl ?_ | refine JO_loadL rfl (lds_block hga) rfl ?_ | refine JO_q (by simp) (JQ_eqP rfl) rfl ?_ | refine JO_q (by simp) (JQ_lenB rfl) rfl ?_ | refine JO_addN (a := P3.length) (b := x3.length) rfl rfl (by omega) rfl ?_ | refine JO_addN (a := 2) (b := 1) rfl rfl (by omega) rfl ?_ | refine JO_q (by simp) (JQ_sliceE (bs := a) (l := P3.length) (h := P3.length + x3.length) rfl rfl rfl (by omega) (by omega) w3) rfl ?_ | refine JO_q (by simp) (JQ_neS0 rfl rfl) rfl ?_ | refine JO_q (by simp) (JQ_lssT rfl rfl (by omega)) rfl ?_ | refine JO_q (by simp) (JQ_gtrF rfl rfl (by omega)) rfl ?_ | refine JO_move rfl rfl ?_ | refine JO_assign rfl rfl ?_ | refine JO_load rfl rfl ?_ | refine JO_pickF rfl rfl rfl ?_ | refine JO_extract rfl rfl rfl ?_ | refine JO_store rfl rfl (by first | rfl | assumption) rfl ?_ | refine JO_callV' rfl (rr) rfl ?_)))
        exact ⟨⟨3, by omega⟩, by simp, by (repeat (first | exact sub_nil _ | refine sub_cons rfl ?_)), rfl, by rw [stage_3]; exact Ent.sel (K := [pt n7 (.cells #[str X, str Y, str Z] 22 (0, 0)), pt n10 (.cells #[str m, str u, str s2] 22 (0, 0)), pt n12 (.cells #[ptr p1, ptr p2, ptr p3] 37 (0, 0)), pt n14 (.cells #[str x1, str x2, str x3] 22 (0, 0))])⟩
      | 3, _ =>
        rw [stage_3]
        by_cases hi0 : i = 0
        · obtain ⟨b1, b2, b3⟩ := hmm hi0
          subst b1 b2 b3
          repeat (first | (first | refine J_region ?_ | refine JL_nil ?_ | refine J_seq ?_ | refine J_skip ?_ | refine J_condF rfl ?_ | refine J_exit ?_) | (first | ((first | refine JL_step rfl ?_ | refine JL_take rfl rfl ?_); first | refine JO_q (by simp) (JQ_lssF rfl rfl (by omega)) rfl ?_ | refine JO_q (by simp) (JQ_eqT rfl rfl (by omega)) rfl ?_ | refine JO_q (by simp) (JQ_neF rfl rfl (by omega)) rfl ?_ | refine JO_q (by simp) (JQ_indexPK i (j := i) rfl rfl (by omega) (by omega)) rfl ?_ | refine JO_loadL rfl (lds_block hga) rfl ?_ | refine JO_q (by simp) (JQ_neS0 rfl rfl) rfl ?_ | refine JO_q (by simp) (JQ_neA3 (by kernel_rfl) rfl rfl) rfl ?_ | refine JO_addN (b := 1) rfl rfl (by omega) rfl ?_ | refine JO_move rfl rfl ?_ | refine JO_assign rfl rfl ?_ | refine JO_loadW rfl (by rfl) rfl ?_ | refine JO_pickT rfl rfl rfl ?_ | refine JO_pickF rfl rfl rfl ?_ | refine JO_extract rfl rfl rfl ?_ | refine JO_callVP rfl (jn) rfl ?_)))
          exact ⟨⟨i + 1, by omega⟩, by simp only; omega, by (repeat (first | exact sub_nil _ | refine sub_cons rfl ?_)), rfl, Ent.sel⟩
        · repeat (first | (first | refine J_region ?_ | refine JL_nil ?_ | refine J_seq ?_ | refine J_skip ?_ | refine J_condF rfl ?_ | refine J_exit ?_) | (first | ((first | refine JL_step rfl ?_ | refine JL_take rfl rfl ?_); first | refine JO_q (by simp) (JQ_lssF rfl rfl (by omega)) rfl ?_ | refine JO_q (by simp) (JQ_eqF rfl rfl (by omega)) rfl ?_ | refine JO_q (by simp) (JQ_neF rfl rfl (by omega)) rfl ?_ | refine JO_q (by simp) (JQ_indexPK i (j := i) rfl rfl (by omega) (by omega)) rfl ?_ | refine JO_loadL rfl (lds_block hga) rfl ?_ | refine JO_q (by simp) (JQ_neS0 rfl rfl) rfl ?_ | refine JO_addN (b := 1) rfl rfl (by omega) rfl ?_ | refine JO_move rfl rfl ?_ | refine JO_assign rfl rfl ?_ | refine JO_loadW rfl (by rfl) rfl ?_ | refine JO_pickF rfl rfl rfl ?_ | refine JO_extract rfl rfl rfl ?_ | refine JO_callVP rfl (jn) rfl ?_) | refine JL_pass rfl rfl rfl ?_))
          exact ⟨⟨i + 1, by omega⟩, by simp only; omega, by (repeat (first | exact sub_nil _ | refine sub_cons rfl ?_)), rfl, Ent.sel⟩
  · have sp := split_bad a hal hZ
    have hi0 : i ≠ 0 := fun h => hZ (by rw [ham h, sj])
    repeat (first | (first | refine J_region ?_ | refine JL_nil ?_ | refine J_seq ?_ | refine J_block ?_ | refine J_skip ?_ | refine J_condT rfl ?_ | refine J_condF rfl ?_ | refine J_exit ?_) | (first | ((first | refine JL_step rfl ?_); first | refine JO_q (by simp) (JQ_indexPK i (j := i) rfl rfl (by omega) (by omega)) rfl ?_ | refine JO_loadL rfl (lds_block hga) rfl ?_ | refine JO_callE rfl sp rfl (fun q _ => ?_) | refine JO_q (by simp) (JQ_neIf1 rfl) rfl ?_ | refine JO_q (by simp) (JQ_lssT rfl rfl (by omega)) rfl ?_ | refine JO_q (by simp) (JQ_eqF rfl rfl (by omega)) rfl ?_ | refine JO_addN (b := 1) rfl rfl (by omega) rfl ?_ | refine JO_move rfl rfl ?_ | refine JO_assign rfl rfl ?_ | refine JO_extract rfl rfl rfl ?_ | refine JO_allocA rfl (fun r => ?_) | refine JO_storeW rfl rfl (by rfl) (by rfl) (by first | decide | simp [Value.oneCell']) rfl ?_)))
    exact ⟨⟨i + 1, by omega⟩, by simp only; omega, by (repeat (first | exact sub_nil _ | refine sub_cons rfl ?_)), rfl, Ent.sel⟩
end Go.Proofs.YtfelcdbhlahehaaDoor
