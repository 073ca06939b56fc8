/- Layer 3: texts that are cut; bytes that are turned. -/
import Derived.Test.YtfelcdbhlahehaaDoorM12
import Derived.Test.YtfelcdbhlahehaaDoorM5
import Derived.Test.YtfelcdbhlahehaaDoorM11
import Derived.Test.YtfelcdbhlahehaaDoorM8
import Derived.Test.YtfelcdbhlahehaaDoorM9
import Derived.Laws.StructEq
namespace Go.Proofs.YtfelcdbhlahehaaDoor
open Go Go.Sp
def cut300 (t : List UInt8) : List UInt8 := t.take (min t.length 300)
theorem cut300_len (t : List UInt8) : (cut300 t).length ≤ 300 := by simp [cut300]; omega
def noughts (n : Nat) : List UInt8 := List.replicate (n % 70000) 0
theorem madeBytes (n : Nat) : madeCells (Value.int .u8 0).cells (n * 1) = (by8 (List.replicate n 0)).toArray := by
  rw [show (Value.int .u8 0).cells = #[.int .u8 0] from rfl, Nat.mul_one]
  apply Array.ext'
  simp [by8, madeCells]
  apply List.ext_getElem
  · simp
  · intro i h1 h2; simp [Nat.mod_one]
attribute [local irreducible] callFunc Go.method J JL JO JR JR1 JRl Ct JG JM JM1 JQ JQ0 JS CtD LeavesQ by8 ibits stage
set_option maxRecDepth 8000 in
set_option maxHeartbeats 4000000 in
theorem texts_c (x y z : List UInt8) (n : Nat) (hn : n < 4294967296) (hx : x.length ≤ maxLen) (hy : y.length ≤ maxLen) (hz : z.length ≤ maxLen) :
    Ct Tryd.prog 14 #[.agg #[str x, str y, str z], .int .u32 (n : Int)] [] (RetV (.agg #[str (cut300 x ++ noughts n), str (cut300 y), str (cut300 z)]) []) := by
  refine fn_ret (vs := [_, _]) Tryd.func14 rfl Tryd.ntmps14 (by simp) ?_
  repeat (first | (first | refine J_region ?_ | refine JL_nil ?_ | refine J_seq ?_ | refine J_block ?_) | (first | ((first | refine JL_step rfl ?_); first | refine JO_assign rfl rfl ?_ | refine JO_boxA rfl rfl (fun r => ?_) | refine JO_allocA rfl (fun r => ?_))))
  rename_i n2
  revert r
  intro n4
  refine J_loop (β := { k : Nat // k ≤ 3 }) (fun k => [(1, .int .u32 (n : Int)), (2, ptr n2), (4, ptr n4), (5, .int .i64 (k.1 : Int))]) (fun _ => [])
    (fun k => stage k.1 [pt n2 (.cells #[str x, str y, str z] 22 (0, 0)), pt n4 (.cells #[str [], str [], str []] 22 (0, 0))] [pt n2 (.cells #[str (x.take (min x.length 300)), str y, str z] 22 (0, 0)), pt n4 (.cells #[str [], str [], str []] 22 (0, 0))] [pt n2 (.cells #[str (x.take (min x.length 300)), str (y.take (min y.length 300)), str z] 22 (0, 0)), pt n4 (.cells #[str [], str [], str []] 22 (0, 0))] [pt n2 (.cells #[str (x.take (min x.length 300)), str (y.take (min y.length 300)), str (z.take (min z.length 300))] 22 (0, 0)), pt n4 (.cells #[str [], str [], str []] 22 (0, 0))]) (fun k => 3 - k.1) ⟨0, by simp⟩ ?_ rfl (by rw [stage_0]; exact Ent.sel) ?_
  · (repeat (first | exact sub_nil _ | refine sub_cons rfl ?_))
  rintro ⟨k, hk⟩
  dsimp only
  match k, hk with
    | 0, _ =>
      rw [stage_0]
      repeat (first | (first | refine J_region ?_ | refine JL_nil ?_ | refine J_seq ?_ | refine J_block ?_ | refine J_skip ?_ | refine J_condT rfl ?_) | (first | ((first | refine JL_step rfl ?_); first | refine JO_q (by simp) (JQ_lssT rfl rfl (by omega)) rfl ?_ | refine JO_move rfl rfl ?_)))
      refine J_cut [(1, .int .u32 (n : Int)), (2, ptr n2), (4, ptr n4), (5, .int .i64 ((0 : Nat) : Int))] [pt n2 (.cells #[str (x.take (min x.length 300)), str y, str z] 22 (0, 0)), pt n4 (.cells #[str [], str [], str []] 22 (0, 0))] ?_ ?_
      · refine J_calm ?_
        refine J_regionM 11 [pt n2 (.cells #[str x, str y, str z] 22 (0, 0))] Ent.sel ?_
        (refine JM_take 0 rfl rfl (by kernel_rfl) (by kernel_rfl) (by kernel_rfl) rfl rfl rfl rfl Ent.sel (by first | exact JQ_move rfl) ?_; refine JM_take 1 rfl rfl (by kernel_rfl) (by kernel_rfl) (by kernel_rfl) rfl rfl rfl rfl Ent.sel (by first | exact JQ_move rfl) ?_; refine JM_take 2 rfl rfl (by kernel_rfl) (by kernel_rfl) (by kernel_rfl) rfl rfl rfl rfl Ent.sel (by first | exact JQ_indexPK 0 (j := 0) rfl rfl (by omega) rfl) ?_; refine JM_take 3 rfl rfl (by kernel_rfl) (by kernel_rfl) (by kernel_rfl) rfl rfl rfl rfl Ent.sel (by first | exact JQ_loadB rfl) ?_; refine JM_take 4 rfl rfl (by kernel_rfl) (by kernel_rfl) (by kernel_rfl) rfl rfl rfl rfl Ent.sel (by first | exact JQ_move rfl) ?_; refine JM_take 5 rfl rfl (by kernel_rfl) (by kernel_rfl) (by kernel_rfl) rfl rfl rfl rfl Ent.sel (by first | exact JQ_indexPK 0 (j := 0) rfl rfl (by omega) rfl) ?_; refine JM_take 6 rfl rfl (by kernel_rfl) (by kernel_rfl) (by kernel_rfl) rfl rfl rfl rfl Ent.sel (by first | exact JQ_loadB rfl) ?_; refine JM_take 7 rfl rfl (by kernel_rfl) (by kernel_rfl) (by kernel_rfl) rfl rfl rfl rfl Ent.sel (by first | exact JQ_lenB rfl) ?_; refine JM_take 8 rfl rfl (by kernel_rfl) (by kernel_rfl) (by kernel_rfl) rfl rfl rfl rfl Ent.sel (by first | exact JQ_minN rfl rfl) ?_; refine JM_take 9 rfl rfl (by kernel_rfl) (by kernel_rfl) (by kernel_rfl) rfl rfl rfl rfl Ent.sel (by first | exact JQ_headS (bs := x) (h := min x.length 300) rfl rfl (Nat.min_le_left _ _)) ?_; refine JM_take 10 rfl rfl (by kernel_rfl) (by kernel_rfl) (by kernel_rfl) rfl rfl rfl rfl Ent.sel (by first | exact JQ_indexPK 0 (j := 0) rfl rfl (by omega) rfl) ?_)
        repeat' (first | refine JM_fin rfl ?_ | refine JM_only rfl ?_ | refine JM1_jo rfl rfl (by first | exact tame_plain plain_store) (JO_store rfl rfl (by first | rfl | assumption) rfl ⟨by first | exact (fun h => absurd h (by decide)) | exact (fun _ => Ent.nil), ?_⟩))
        exact ⟨by (repeat (first | exact sub_nil _ | refine sub_cons rfl ?_)), rfl, Ent.sel⟩
      repeat (first | (first | refine J_region ?_ | refine JL_nil ?_) | (first | ((first | refine JL_step rfl ?_); first | refine JO_addN (b := 1) rfl rfl (by omega) rfl ?_ | refine JO_move rfl rfl ?_ | refine JO_assign rfl rfl ?_)))
      exact ⟨⟨1, by omega⟩, by simp, by (repeat (first | exact sub_nil _ | refine sub_cons rfl ?_)), rfl, by rw [stage_1]; exact Ent.sel (K := [pt n2 (.cells #[str (x.take (min x.length 300)), str y, str z] 22 (0, 0)), pt n4 (.cells #[str [], str [], str []] 22 (0, 0))])⟩
    | 1, _ =>
      rw [stage_1]
      repeat (first | (first | refine J_region ?_ | refine JL_nil ?_ | refine J_seq ?_ | refine J_block ?_ | refine J_skip ?_ | refine J_condT rfl ?_) | (first | ((first | refine JL_step rfl ?_); first | refine JO_q (by simp) (JQ_lssT rfl rfl (by omega)) rfl ?_ | refine JO_move rfl rfl ?_)))
      refine J_cut [(1, .int .u32 (n : Int)), (2, ptr n2), (4, ptr n4), (5, .int .i64 ((1 : Nat) : Int))] [pt n2 (.cells #[str (x.take (min x.length 300)), str (y.take (min y.length 300)), str z] 22 (0, 0)), pt n4 (.cells #[str [], str [], str []] 22 (0, 0))] ?_ ?_
      · refine J_calm ?_
        refine J_regionM 11 [pt n2 (.cells #[str (x.take (min x.length 300)), str y, str z] 22 (0, 0))] Ent.sel ?_
        (refine JM_take 0 rfl rfl (by kernel_rfl) (by kernel_rfl) (by kernel_rfl) rfl rfl rfl rfl Ent.sel (by first | exact JQ_move rfl) ?_; refine JM_take 1 rfl rfl (by kernel_rfl) (by kernel_rfl) (by kernel_rfl) rfl rfl rfl rfl Ent.sel (by first | exact JQ_move rfl) ?_; refine JM_take 2 rfl rfl (by kernel_rfl) (by kernel_rfl) (by kernel_rfl) rfl rfl rfl rfl Ent.sel (by first | exact JQ_indexPK 1 (j := 1) rfl rfl (by omega) rfl) ?_; refine JM_take 3 rfl rfl (by kernel_rfl) (by kernel_rfl) (by kernel_rfl) rfl rfl rfl rfl Ent.sel (by first | exact JQ_loadB rfl) ?_; refine JM_take 4 rfl rfl (by kernel_rfl) (by kernel_rfl) (by kernel_rfl) rfl rfl rfl rfl Ent.sel (by first | exact JQ_move rfl) ?_; refine JM_take 5 rfl rfl (by kernel_rfl) (by kernel_rfl) (by kernel_rfl) rfl rfl rfl rfl Ent.sel (by first | exact JQ_indexPK 1 (j := 1) rfl rfl (by omega) rfl) ?_; refine JM_take 6 rfl rfl (by kernel_rfl) (by kernel_rfl) (by kernel_rfl) rfl rfl rfl rfl Ent.sel (by first | exact JQ_loadB rfl) ?_; refine JM_take 7 rfl rfl (by kernel_rfl) (by kernel_rfl) (by kernel_rfl) rfl rfl rfl rfl Ent.sel (by first | exact JQ_lenB rfl) ?_; refine JM_take 8 rfl rfl (by kernel_rfl) (by kernel_rfl) (by kernel_rfl) rfl rfl rfl rfl Ent.sel (by first | exact JQ_minN rfl rfl) ?_; refine JM_take 9 rfl rfl (by kernel_rfl) (by kernel_rfl) (by kernel_rfl) rfl rfl rfl rfl Ent.sel (by first | exact JQ_headS (bs := y) (h := min y.length 300) rfl rfl (Nat.min_le_left _ _)) ?_; refine JM_take 10 rfl rfl (by kernel_rfl) (by kernel_rfl) (by kernel_rfl) rfl rfl rfl rfl Ent.sel (by first | exact JQ_indexPK 1 (j := 1) rfl rfl (by omega) rfl) ?_)
        repeat' (first | refine JM_fin rfl ?_ | refine JM_only rfl ?_ | refine JM1_jo rfl rfl (by first | exact tame_plain plain_store) (JO_store rfl rfl (by first | rfl | assumption) rfl ⟨by first | exact (fun h => absurd h (by decide)) | exact (fun _ => Ent.nil), ?_⟩))
        exact ⟨by (repeat (first | exact sub_nil _ | refine sub_cons rfl ?_)), rfl, Ent.sel⟩
      repeat (first | (first | refine J_region ?_ | refine JL_nil ?_) | (first | ((first | refine JL_step rfl ?_); first | refine JO_addN (b := 1) rfl rfl (by omega) rfl ?_ | refine JO_move rfl rfl ?_ | refine JO_assign rfl rfl ?_)))
      exact ⟨⟨2, by omega⟩, by simp, by (repeat (first | exact sub_nil _ | refine sub_cons rfl ?_)), rfl, by rw [stage_2]; exact Ent.sel (K := [pt n2 (.cells #[str (x.take (min x.length 300)), str (y.take (min y.length 300)), str z] 22 (0, 0)), pt n4 (.cells #[str [], str [], str []] 22 (0, 0))])⟩
    | 2, _ =>
      rw [stage_2]
      repeat (first | (first | refine J_region ?_ | refine JL_nil ?_ | refine J_seq ?_ | refine J_block ?_ | refine J_skip ?_ | refine J_condT rfl ?_) | (first | ((first | refine JL_step rfl ?_); first | refine JO_q (by simp) (JQ_lssT rfl rfl (by omega)) rfl ?_ | refine JO_move rfl rfl ?_)))
      refine J_cut [(1, .int .u32 (n : Int)), (2, ptr n2), (4, ptr n4), (5, .int .i64 ((2 : Nat) : Int))] [pt n2 (.cells #[str (x.take (min x.length 300)), str (y.take (min y.length 300)), str (z.take (min z.length 300))] 22 (0, 0)), pt n4 (.cells #[str [], str [], str []] 22 (0, 0))] ?_ ?_
      · refine J_calm ?_
        refine J_regionM 11 [pt n2 (.cells #[str (x.take (min x.length 300)), str (y.take (min y.length 300)), str z] 22 (0, 0))] Ent.sel ?_
        (refine JM_take 0 rfl rfl (by kernel_rfl) (by kernel_rfl) (by kernel_rfl) rfl rfl rfl rfl Ent.sel (by first | exact JQ_move rfl) ?_; refine JM_take 1 rfl rfl (by kernel_rfl) (by kernel_rfl) (by kernel_rfl) rfl rfl rfl rfl Ent.sel (by first | exact JQ_move rfl) ?_; refine JM_take 2 rfl rfl (by kernel_rfl) (by kernel_rfl) (by kernel_rfl) rfl rfl rfl rfl Ent.sel (by first | exact JQ_indexPK 2 (j := 2) rfl rfl (by omega) rfl) ?_; refine JM_take 3 rfl rfl (by kernel_rfl) (by kernel_rfl) (by kernel_rfl) rfl rfl rfl rfl Ent.sel (by first | exact JQ_loadB rfl) ?_; refine JM_take 4 rfl rfl (by kernel_rfl) (by kernel_rfl) (by kernel_rfl) rfl rfl rfl rfl Ent.sel (by first | exact JQ_move rfl) ?_; refine JM_take 5 rfl rfl (by kernel_rfl) (by kernel_rfl) (by kernel_rfl) rfl rfl rfl rfl Ent.sel (by first | exact JQ_indexPK 2 (j := 2) rfl rfl (by omega) rfl) ?_; refine JM_take 6 rfl rfl (by kernel_rfl) (by kernel_rfl) (by kernel_rfl) rfl rfl rfl rfl Ent.sel (by first | exact JQ_loadB rfl) ?_; refine JM_take 7 rfl rfl (by kernel_rfl) (by kernel_rfl) (by kernel_rfl) rfl rfl rfl rfl Ent.sel (by first | exact JQ_lenB rfl) ?_; refine JM_take 8 rfl rfl (by kernel_rfl) (by kernel_rfl) (by kernel_rfl) rfl rfl rfl rfl Ent.sel (by first | exact JQ_minN rfl rfl) ?_; refine JM_take 9 rfl rfl (by kernel_rfl) (by kernel_rfl) (by kernel_rfl) rfl rfl rfl rfl Ent.sel (by first | exact JQ_headS (bs := z) (h := min z.length 300) rfl rfl (Nat.min_le_left _ _)) ?_; refine JM_take 10 rfl rfl (by kernel_rfl) (by kernel_rfl) (by kernel_rfl) rfl rfl rfl rfl Ent.sel (by first | exact JQ_indexPK 2 (j := 2) rfl rfl (by omega) rfl) ?_)
        repeat' (first | refine JM_fin rfl ?_ | refine JM_only rfl ?_ | refine JM1_jo rfl rfl (by first | exact tame_plain plain_store) (JO_store rfl rfl (by first | rfl | assumption) rfl ⟨by first | exact (fun h => absurd h (by decide)) | exact (fun _ => Ent.nil), ?_⟩))
        exact ⟨by (repeat (first | exact sub_nil _ | refine sub_cons rfl ?_)), rfl, Ent.sel⟩
      repeat (first | (first | refine J_region ?_ | refine JL_nil ?_) | (first | ((first | refine JL_step rfl ?_); first | refine JO_addN (b := 1) rfl rfl (by omega) rfl ?_ | refine JO_move rfl rfl ?_ | refine JO_assign rfl rfl ?_)))
      exact ⟨⟨3, by omega⟩, by simp, by (repeat (first | exact sub_nil _ | refine sub_cons rfl ?_)), rfl, by rw [stage_3]; exact Ent.sel (K := [pt n2 (.cells #[str (x.take (min x.length 300)), str (y.take (min y.length 300)), str (z.take (min z.length 300))] 22 (0, 0)), pt n4 (.cells #[str [], str [], str []] 22 (0, 0))])⟩
    | 3, _ =>
      rw [stage_3]
      repeat (first | (first | refine J_region ?_ | refine JL_nil ?_ | refine J_seq ?_ | refine J_condF rfl ?_ | refine J_exit ?_) | (first | ((first | refine JL_step rfl ?_); first | refine JO_q (by simp) (JQ_lssF rfl rfl (by omega)) rfl ?_ | refine JO_move rfl rfl ?_)))
      have hm : n % 70000 < 70000 := Nat.mod_lt _ (by decide)
      have hcut : (x.take (min x.length 300)).length ≤ 300 := cut300_len x
      refine J_cut [(4, ptr n4), (2, ptr n2)] [pt n2 (.cells #[str (cut300 x ++ noughts n), str (cut300 y), str (cut300 z)] 22 (0, 0)), pt n4 (.cells #[str [], str [], str []] 22 (0, 0))] ?_ ?_
      · refine J_calm ?_
        refine J_regionM 9 [pt n2 (.cells #[str (x.take (min x.length 300)), str (y.take (min y.length 300)), str (z.take (min z.length 300))] 22 (0, 0))] Ent.sel ?_
        (refine JM_take 0 rfl rfl (by kernel_rfl) (by kernel_rfl) (by kernel_rfl) rfl rfl rfl rfl Ent.sel (by first | exact JQ_indexPK 0 (j := 0) rfl rfl (by omega) rfl) ?_; refine JM_take 1 rfl rfl (by kernel_rfl) (by kernel_rfl) (by kernel_rfl) rfl rfl rfl rfl Ent.sel (by first | exact JQ_loadB rfl) ?_; refine JM_take 2 rfl rfl (by kernel_rfl) (by kernel_rfl) (by kernel_rfl) rfl rfl rfl rfl Ent.sel (by first | exact JQ_move rfl) ?_; refine JM_take 3 rfl rfl (by kernel_rfl) (by kernel_rfl) (by kernel_rfl) rfl rfl rfl rfl Ent.sel (by first | exact JQ_convF (a := n) rfl (wrap_i64n (by omega))) ?_; refine JM_take 4 rfl rfl (by kernel_rfl) (by kernel_rfl) (by kernel_rfl) rfl rfl rfl rfl Ent.sel (by first | exact JQ_remF (a := n) (b := 70000) rfl rfl (by decide)) ?_)
        repeat' (first | refine JM_fin rfl ?_ | refine JM_only rfl ?_ | refine JM1_jo rfl rfl (by first | exact tame_plain plain_store | exact tame_plain (fun _ _ _ _ h => .inr (run_then_value _ _ _ _ h))) (JO_makeM (n := n % 70000) (by8 (List.replicate (n % 70000) 0)) rfl rfl (madeBytes _) (by omega) (Nat.le_trans (Nat.le_of_lt hm) (by decide)) rfl (fun r => ⟨by first | exact (fun _ => Ent.sel), ?_⟩)) | refine JM1_jo rfl rfl (by first | exact tame_plain plain_store | exact tame_plain (fun _ _ _ _ h => .inr (run_then_value _ _ _ _ h))) (JO_q (by simp) (JQ_strB (bs := List.replicate (n % 70000) 0) rfl (by simp) rfl) rfl ⟨by first | exact (fun h => absurd h (by decide)) | exact (fun _ => Ent.sel), ?_⟩) | refine JM1_jo rfl rfl (by first | exact tame_plain plain_store | exact tame_plain (fun _ _ _ _ h => .inr (run_then_value _ _ _ _ h))) (JO_q (by simp) (JQ_addS rfl rfl (by simp only [List.length_replicate]; omega)) rfl ⟨by first | exact (fun _ => Ent.sel), ?_⟩) | refine JM1_jo rfl rfl (by first | exact tame_plain plain_store | exact tame_plain (fun _ _ _ _ h => .inr (run_then_value _ _ _ _ h))) (JO_q (by simp) (JQ_indexPK 0 (j := 0) rfl rfl (by omega) rfl) rfl ⟨by first | exact (fun _ => Ent.sel), ?_⟩) | refine JM1_jo rfl rfl (by first | exact tame_plain plain_store) (JO_store rfl rfl (by first | rfl | assumption) rfl ⟨by first | exact (fun h => absurd h (by decide)) | exact (fun _ => Ent.nil), ?_⟩))
        all_goals exact ⟨by (repeat (first | exact sub_nil _ | refine sub_cons rfl ?_)), rfl, by unfold cut300 noughts; exact Ent.sel⟩
      repeat (first | (first | refine J_region ?_ | refine JL_nil ?_ | refine J_seq ?_ | refine J_ret ?_) | (first | ((first | refine JL_step rfl ?_); first | refine JO_loadW rfl (by rfl) rfl ?_ | refine JO_storeW rfl rfl (by rfl) (by rfl) (by first | decide | simp [Value.oneCell']) rfl ?_)))
      exact ⟨rfl, _, res_cellW rfl rfl rfl, _, Ent.nil, rfl, rfl⟩
end Go.Proofs.YtfelcdbhlahehaaDoor

/- Layer 3: bytes that are turned. -/
namespace Go.Proofs.YtfelcdbhlahehaaDoor
open Go Go.Sp
theorem some_byte (op : BinOp) (m n : Int) : ∃ c : UInt8, ibits op .u8 m n = ((c.toNat : Nat) : Int) := by
  have h : ∀ z : Int, ∃ c : UInt8, IntKind.u8.wrap z = ((c.toNat : Nat) : Int) := fun z => by
    have e : IntKind.u8.wrap z = z % 256 := by simp [IntKind.wrap, IntKind.signed, IntKind.bits]
    refine ⟨UInt8.ofNat (z % 256).toNat, ?_⟩
    rw [e, toNat_of (by omega)]
    omega
  exact h _
attribute [local irreducible] callFunc Go.method J JL JO JR JR1 JRl Ct JG JM JM1 JQ JQ0 JS CtD LeavesQ by8 ibits
set_option maxRecDepth 8000 in
set_option maxHeartbeats 4000000 in
theorem turned_c (s : List UInt8) (at_ by_ : Nat) (stay : Int) (hat : at_ < 65536) (hs : s.length ≤ 1000000) :
    Ct Tryd.prog 16 #[str s, .agg #[.int .u16 (at_ : Int), .int .u8 (by_ : Int), .int .i64 stay]] [] (RetE (fun u : List UInt8 => u.length ≤ s.length) str (fun _ => [])) := by
  refine fn_ret (vs := [_, _]) Tryd.func16 rfl Tryd.ntmps16 (by simp) ?_
  repeat (first | (first | refine J_region ?_ | refine JL_nil ?_ | refine J_seq ?_) | (first | ((first | refine JL_step rfl ?_); first | refine JO_move rfl rfl ?_ | refine JO_assign rfl rfl ?_ | refine JO_boxA rfl rfl (fun r => ?_))))
  revert r
  intro n3
  refine JL_step rfl (JO_bytesO (bs := s) rfl rfl fun b cap sp fz hcap hfz => ?_)
  repeat (first | (first | refine J_region ?_ | refine JL_nil ?_ | refine J_seq ?_) | (first | ((first | refine JL_step rfl ?_); first | refine JO_move rfl rfl ?_ | refine JO_assign rfl rfl ?_ | refine JO_len rfl rfl ?_ | refine JO_gtr rfl rfl rfl ?_)))
  refine J_cutX (α := { us : List UInt8 // us.length = s.length }) (fun _ => [(3, ptr n3), (5, .slice (some ⟨b, 0, none⟩) s.length cap)]) (fun us => [pt b (.cells (by8 us.1 ++ sp).toArray 5 fz), pt n3 (.cells #[.int .u16 (at_ : Int), .int .u8 (by_ : Int), .int .i64 stay] 25 (0, 0))]) ?_ ?_
  · refine J_condP rfl (fun h0 => ?_) (fun h0 => ?_)
    · have hm : at_ % s.length < s.length := Nat.mod_lt _ (by omega)
      obtain ⟨x, hx⟩ : ∃ x, s[at_ % s.length]? = some x := ⟨_, List.getElem?_eq_getElem hm⟩
      have hlx : (by8 s ++ sp)[at_ % s.length]? = some (.int .u8 ((x.toNat : Nat) : Int)) := by
        rw [List.getElem?_append_left (by rw [length_by8]; exact hm)]
        exact by8_get hx
      obtain ⟨c, hc⟩ := some_byte .xor ((x.toNat : Nat) : Int) (by_ : Int)
      have hset : (by8 s ++ sp).set (at_ % s.length) (.int .u8 ((c.toNat : Nat) : Int)) = by8 (s.set (at_ % s.length) c) ++ sp := by
        rw [List.set_append_left _ _ (by rw [length_by8]; exact hm)]
        simp [by8, List.map_set]
      refine J_calm ?_
      refine J_regionM 13 [pt b (.cells (by8 s ++ sp).toArray 5 fz), pt n3 (.cells #[.int .u16 (at_ : Int), .int .u8 (by_ : Int), .int .i64 stay] 25 (0, 0))] Ent.sel ?_
      (refine JM_take 0 rfl rfl (by kernel_rfl) (by kernel_rfl) (by kernel_rfl) rfl rfl rfl rfl Ent.sel (by first | exact JQ_move rfl) ?_; refine JM_take 1 rfl rfl (by kernel_rfl) (by kernel_rfl) (by kernel_rfl) rfl rfl rfl rfl Ent.sel (by first | exact JQ_field0 rfl) ?_; refine JM_take 2 rfl rfl (by kernel_rfl) (by kernel_rfl) (by kernel_rfl) rfl rfl rfl rfl Ent.sel (by first | exact JQ_loadB rfl) ?_; refine JM_take 3 rfl rfl (by kernel_rfl) (by kernel_rfl) (by kernel_rfl) rfl rfl rfl rfl Ent.sel (by first | exact JQ_convF (a := at_) rfl (wrap_i64n (by omega))) ?_; refine JM_take 4 rfl rfl (by kernel_rfl) (by kernel_rfl) (by kernel_rfl) rfl rfl rfl rfl Ent.sel (by first | exact JQ_move rfl) ?_; refine JM_take 5 rfl rfl (by kernel_rfl) (by kernel_rfl) (by kernel_rfl) rfl rfl rfl rfl Ent.sel (by first | exact JQ_len rfl) ?_; refine JM_take 6 rfl rfl (by kernel_rfl) (by kernel_rfl) (by kernel_rfl) rfl rfl rfl rfl Ent.sel (by first | exact JQ_remF (a := at_) (b := s.length) rfl rfl (by omega)) ?_; refine JM_take 7 rfl rfl (by kernel_rfl) (by kernel_rfl) (by kernel_rfl) rfl rfl rfl rfl Ent.sel (by first | exact JQ_index1 rfl rfl (by omega)) ?_; refine JM_take 8 rfl rfl (by kernel_rfl) (by kernel_rfl) (by kernel_rfl) rfl rfl rfl rfl Ent.sel (by first | exact JQ_load rfl (lds_block (by rw [Nat.zero_add]; exact hlx))) ?_; refine JM_take 9 rfl rfl (by kernel_rfl) (by kernel_rfl) (by kernel_rfl) rfl rfl rfl rfl Ent.sel (by first | exact JQ_field0 rfl) ?_; refine JM_take 10 rfl rfl (by kernel_rfl) (by kernel_rfl) (by kernel_rfl) rfl rfl rfl rfl Ent.sel (by first | exact JQ_loadB rfl) ?_; refine JM_take 11 rfl rfl (by kernel_rfl) (by kernel_rfl) (by kernel_rfl) rfl rfl rfl rfl Ent.sel (by first | exact JQ_bitsV ((c.toNat : Nat) : Int) (.inr (.inr (.inl rfl))) rfl rfl hc) ?_; refine JM_take 12 rfl rfl (by kernel_rfl) (by kernel_rfl) (by kernel_rfl) rfl rfl rfl rfl Ent.sel (by first | exact JQ_index1 rfl rfl (by omega)) ?_)
      refine JM_only rfl ?_
      refine JM1_jo rfl rfl (tame_plain plain_store) (JO_storeF rfl rfl (by rw [Nat.zero_add]; exact hfz _ hm) (by rw [Nat.zero_add, List.length_append, length_by8]; omega) rfl rfl ⟨fun h => absurd h (by decide), ?_⟩)
      refine JM_fin rfl ?_
      rw [Nat.zero_add, hset]
      exact ⟨⟨s.set (at_ % s.length) c, by simp⟩, by (repeat (first | exact sub_nil _ | refine sub_cons rfl ?_)), rfl, Ent.sel⟩
    · refine J_skip ?_
      exact ⟨⟨s, rfl⟩, by (repeat (first | exact sub_nil _ | refine sub_cons rfl ?_)), rfl, Ent.sel⟩
  · rintro ⟨us, hus⟩
    dsimp only [thn]
    have hst : ∀ (m : Nat) (j : Nat) (c : UInt8), (us.take m)[j]? = some c → (by8 us ++ sp)[j]? = some (.int .u8 ((c.toNat : Nat) : Int)) := fun m j c hc => by
      have h1 : us[j]? = some c := by
        rw [List.getElem?_take] at hc
        split at hc
        · exact hc
        · cases hc
      rw [List.getElem?_append_left (by rw [length_by8]; exact (List.getElem?_eq_some_iff.1 h1).1)]
      exact by8_get h1
    by_cases h1 : 0 ≤ stay
    · obtain ⟨m, rfl⟩ := Int.eq_ofNat_of_zero_le h1
      by_cases h2 : m < s.length
      · repeat (first | (first | refine J_region ?_ | refine JL_nil ?_ | refine J_seq ?_ | refine J_condT rfl ?_ | refine J_ret ?_) | (first | ((first | refine JL_step rfl ?_ | refine JL_take rfl rfl ?_); first | refine JO_q (by simp) (JQ_lssT rfl rfl (by omega)) rfl ?_ | refine JO_q (by simp) (JQ_geqT rfl rfl (by omega)) rfl ?_ | refine JO_front (j := m) rfl rfl (by omega) rfl ?_ | refine JO_q (by simp) (JQ_strF (us.take m) rfl (by rw [List.length_take]; omega) (hst m)) rfl ?_ | refine JO_move rfl rfl ?_ | refine JO_assign rfl rfl ?_ | refine JO_len rfl rfl ?_ | refine JO_field0 rfl rfl ?_ | refine JO_load rfl rfl ?_ | refine JO_pickT rfl rfl rfl ?_)))
        exact ret_one rfl rfl (us.take m) (by rw [List.length_take]; omega) rfl .nil
      · repeat (first | (first | refine J_region ?_ | refine JL_nil ?_ | refine J_seq ?_ | refine J_skip ?_ | refine J_condF rfl ?_ | refine J_ret ?_) | (first | ((first | refine JL_step rfl ?_ | refine JL_take rfl rfl ?_); first | refine JO_q (by simp) (JQ_lssF rfl rfl (by omega)) rfl ?_ | refine JO_q (by simp) (JQ_geqT rfl rfl (by omega)) rfl ?_ | refine JO_q (by simp) (JQ_strF (us.take us.length) rfl (by rw [List.length_take]; omega) (hst _)) rfl ?_ | refine JO_move rfl rfl ?_ | refine JO_assign rfl rfl ?_ | refine JO_len rfl rfl ?_ | refine JO_field0 rfl rfl ?_ | refine JO_load rfl rfl ?_ | refine JO_pickT rfl rfl rfl ?_)))
        exact ret_one rfl rfl (us.take us.length) (by rw [List.length_take]; omega) rfl .nil
    · repeat (first | (first | refine J_region ?_ | refine JL_nil ?_ | refine J_seq ?_ | refine J_skip ?_ | refine J_condF rfl ?_ | refine J_ret ?_) | (first | ((first | refine JL_step rfl ?_); first | refine JO_q (by simp) (JQ_geqF rfl rfl (by omega)) rfl ?_ | refine JO_q (by simp) (JQ_strF (us.take us.length) rfl (by rw [List.length_take]; omega) (hst _)) rfl ?_ | refine JO_move rfl rfl ?_ | refine JO_assign rfl rfl ?_ | refine JO_field0 rfl rfl ?_ | refine JO_load rfl rfl ?_ | refine JO_pickF rfl rfl rfl ?_) | refine JL_pass rfl rfl rfl ?_))
      exact ret_one rfl rfl (us.take us.length) (by rw [List.length_take]; omega) rfl .nil
end Go.Proofs.YtfelcdbhlahehaaDoor

/- Bools compared, in drawn regions. -/
namespace Go.Sp
open Go.RowKit
theorem Sat.rot {A : HP} {L : List HP} {w : World} (h : Sat w (A :: L)) : Sat w (L ++ [A]) := h.perm (List.perm_append_comm (l₁ := [A]) (l₂ := L))
section
variable {P : Program} {N : Nat} {E : Env} {D : List Deferred} {L L0 : List HP} {Q : Post} {m : Nat}
variable {d : Option Nat} {ty : TypeId} {pos : String} {after : Array Edge} {g : Option (Nat × Bool)}
theorem JQ_neB {x y : Operand} {t u : TypeId} [TU P t .bool] {m n : Bool} (hx : ev E x = some (.bool m)) (hy : ev E y = some (.bool n)) : JQ P N ⟨d, .binOp .neq t x y u, ty, pos, after, g⟩ E D L (.bool (m != n)) := fun F a hr w hs => by
  simp [execOp, hr.eval hx, hr.eval hy, eqGuard, binOp, run_eqB]; cases m <;> cases n <;> rfl
theorem JQ_neB0 {x y : Operand} {t u : TypeId} [TU P t .bool] {m : Bool} (hx : ev E x = some (.bool m)) (hy : ev E y = some (.bool m)) : JQ P N ⟨d, .binOp .neq t x y u, ty, pos, after, g⟩ E D L (.bool false) := by
  have := JQ_neB (P := P) (N := N) (D := D) (L := L) (d := d) (ty := ty) (pos := pos) (after := after) (g := g) (t := t) (u := u) hx hy
  rwa [bne_self_eq_false] at this
end
end Go.Sp

/- Layer 3: both split alike; what fails. -/
namespace Go.Proofs.YtfelcdbhlahehaaDoor
open Go Go.Sp
theorem Ct.postS {f : FuncId} {args : Array Value} {L : List HP} {R R' : Ending → List HP → Prop} (h : Ct Tryd.prog f args L R) (hr : ∀ e L', R e L' → ∀ F w, Sat w (F :: L') → ∃ L'', R' e L'' ∧ Sat w (F :: L'')) : Ct Tryd.prog f args L R' := fun F w hs =>
  (h F w hs).mono fun _ w' ⟨hne, _, r, s⟩ => let ⟨L'', r', s'⟩ := hr _ _ r F w' s; ⟨hne, L'', r', s'⟩
theorem sat_er0 {v : Value} {a : Int} {w : World} {L : List HP} (h : Sat w (Er v 0 a :: L)) : v = .nilIface := h.out fun _ hk => hk.elim (fun h => h.2.2) (fun h => absurd rfl h.1)
theorem sat_er1 {v : Value} {c a : Int} {w : World} {L : List HP} (hc : c ≠ 0) (h : Sat w (Er v c a :: L)) : ∃ q, v = faultI q ∧ Sat w (Ft q c a :: L) := by
  obtain ⟨q, h1⟩ := h.outE (α := Nat) (B := fun q k => v = faultI q ∧ Ft q c a k) (fun k hk => hk.elim (fun h => absurd h.1 hc) (fun h => h.2))
  exact ⟨q, h1.out fun _ hk => hk.1, h1.conv fun _ hk => hk.2⟩
theorem sat_ptr0 {v : Value} {c pl : Int} {bs : List UInt8} {w : World} {L : List HP} (hc : c ≠ 0) (h : Sat w (PtR v c bs pl :: L)) : v = .pointer none := h.out fun _ hk => hk.elim (fun h => h.2) (fun h => absurd h.1 hc)
theorem sat_ptr1 {v : Value} {c pl : Int} {bs : List UInt8} {w : World} {L : List HP} (hc : c = 0) (h : Sat w (PtR v c bs pl :: L)) : ∃ q, v = ptr q ∧ Sat w (RdB q bs pl :: L) := by
  obtain ⟨q, h1⟩ := h.outE (α := Nat) (B := fun q k => v = ptr q ∧ RdB q bs pl k) (fun k hk => hk.elim (fun h => absurd hc h.1) (fun h => h.2))
  exact ⟨q, h1.out fun _ hk => hk.1, h1.conv fun _ hk => hk.2⟩
theorem sat_ptd0 {v : Value} {c pl : Int} {bs : List UInt8} {w : World} {L : List HP} (hc : c ≠ 0) (h : Sat w (PtD v c bs pl :: L)) : v = .pointer none := h.out fun _ hk => hk.elim (fun h => h.2) (fun h => absurd h.1 hc)
theorem sat_ptd1 {v : Value} {c pl : Int} {bs : List UInt8} {w : World} {L : List HP} (hc : c = 0) (h : Sat w (PtD v c bs pl :: L)) : ∃ q, v = ptr q ∧ Sat w (Dr q bs 0 pl :: L) := by
  obtain ⟨q, h1⟩ := h.outE (α := Nat) (B := fun q k => v = ptr q ∧ Dr q bs 0 pl k) (fun k hk => hk.elim (fun h => absurd hc h.1) (fun h => h.2))
  exact ⟨q, h1.out fun _ hk => hk.1, h1.conv fun _ hk => hk.2⟩
abbrev nil3 : Value := .agg #[.pointer none, .pointer none, .pointer none]
abbrev ptr3 (x : Nat × Nat × Nat) : Value := .agg #[ptr x.1, ptr x.2.1, ptr x.2.2]
theorem split_ok (bs : List UInt8) (hb : bs.length ≤ 1000000) (h : (splE bs).1 = 0) :
    Ct Tryd.prog 19 #[str bs] [] (RetE (fun _ : Nat × Nat × Nat => True) (fun x => .tuple #[ptr3 x, .nilIface]) (fun x => [RdB x.1 (s1A bs).part (s1A bs).at_, RdB x.2.1 (s2A bs).part (s2A bs).at_, RdB x.2.2 (s3A bs).part (s3A bs).at_])) :=
  Ct.postS (split_c bs hb) fun e L' ⟨⟨v1, v2, v3, v4⟩, _, he, hL⟩ F w hs => by
    dsimp only at he hL
    rw [hL, h] at hs
    have h1 := hs.rot
    obtain rfl := sat_er0 h1
    obtain ⟨a, rfl, h2⟩ := sat_ptr1 rfl h1.tail
    obtain ⟨b, rfl, h3⟩ := sat_ptr1 rfl h2.rot
    obtain ⟨c, rfl, h4⟩ := sat_ptr1 rfl h3.rot
    exact ⟨_, ⟨(a, b, c), trivial, he, rfl⟩, h4.rot⟩
theorem split_bad (bs : List UInt8) (hb : bs.length ≤ 1000000) (h : (splE bs).1 ≠ 0) :
    Ct Tryd.prog 19 #[str bs] [] (RetE (fun _ : Nat => True) (fun q => .tuple #[nil3, faultI q]) (fun q => [Ft q (splE bs).1 (splE bs).2])) :=
  Ct.postS (split_c bs hb) fun e L' ⟨⟨v1, v2, v3, v4⟩, _, he, hL⟩ F w hs => by
    dsimp only at he hL
    rw [hL] at hs
    obtain ⟨q, rfl, h1⟩ := sat_er1 h hs.rot
    have h2 := h1.rot
    obtain rfl := sat_ptr0 h h2
    have h3 := h2.tail
    obtain rfl := sat_ptr0 h h3
    have h4 := h3.tail
    obtain rfl := sat_ptr0 h h4
    exact ⟨_, ⟨q, trivial, he, rfl⟩, h4.tail⟩
theorem dsplit_ok (bs : List UInt8) (hb : bs.length ≤ 1000000) (h : (splE bs).1 = 0) :
    Ct Tryd.prog 50 #[str bs] [] (RetE (fun _ : Nat × Nat × Nat => True) (fun x => .tuple #[ptr3 x, faultV 0 (splE bs).2]) (fun x => [Dr x.1 (s1A bs).part 0 (s1A bs).at_, Dr x.2.1 (s2A bs).part 0 (s2A bs).at_, Dr x.2.2 (s3A bs).part 0 (s3A bs).at_])) :=
  Ct.postS (dsplit_c bs hb) fun e L' ⟨⟨v1, v2, v3⟩, _, he, hL⟩ F w hs => by
    dsimp only at he hL
    rw [h] at he
    rw [hL, h] at hs
    obtain ⟨a, rfl, h2⟩ := sat_ptd1 rfl hs.rot
    obtain ⟨b, rfl, h3⟩ := sat_ptd1 rfl h2.rot
    obtain ⟨c, rfl, h4⟩ := sat_ptd1 rfl h3.rot
    exact ⟨_, ⟨(a, b, c), trivial, he, rfl⟩, h4.rot⟩
theorem dsplit_bad (bs : List UInt8) (hb : bs.length ≤ 1000000) (h : (splE bs).1 ≠ 0) :
    Ct Tryd.prog 50 #[str bs] [] (RetV (.tuple #[nil3, faultV (splE bs).1 (splE bs).2]) []) :=
  Ct.postS (dsplit_c bs hb) fun e L' ⟨⟨v1, v2, v3⟩, _, he, hL⟩ F w hs => by
    dsimp only at he hL
    rw [hL] at hs
    have h2 := hs.rot
    obtain rfl := sat_ptd0 h h2
    have h3 := h2.tail
    obtain rfl := sat_ptd0 h h3
    have h4 := h3.tail
    obtain rfl := sat_ptd0 h h4
    exact ⟨_, ⟨he, rfl⟩, h4.tail⟩
theorem spl_a {bs : List UInt8} (h : (splE bs).1 = 0) : (splE bs).2 = 0 := by
  unfold splE at h ⊢
  split at h
  · rename_i h0; exact absurd h h0
  · rename_i h0
    rw [if_neg h0]
    split at h
    · rename_i h1; exact absurd h h1
    · rename_i h1
      rw [if_neg h1]
      split at h
      · rename_i h2; exact absurd h h2
      · rename_i h2
        rw [if_neg h2]
        split at h
        · rename_i h3; exact absurd h h3
        · rename_i h3
          rw [if_neg h3]
          unfold endA at h ⊢
          split at h
          · rename_i h5; rw [if_pos h5]
          · simp at h
theorem spl_parts {bs : List UInt8} (hb : bs.length ≤ 1000000) (h : (splE bs).1 = 0) : (0 ≤ (s1A bs).at_ ∧ (s1A bs).at_ + (s1A bs).part.length ≤ bs.length) ∧ (0 ≤ (s2A bs).at_ ∧ (s2A bs).at_ + (s2A bs).part.length ≤ bs.length) ∧ (0 ≤ (s3A bs).at_ ∧ (s3A bs).at_ + (s3A bs).part.length ≤ bs.length) := by
  have hh : (begA headL bs 0).1 = 0 ∧ (s1A bs).c = 0 ∧ (s2A bs).c = 0 ∧ (s3A bs).c = 0 := by
    unfold splE at h
    split at h
    · rename_i h0; exact absurd h h0
    · rename_i h0
      split at h
      · rename_i h1; exact absurd h h1
      · rename_i h1
        split at h
        · rename_i h2; exact absurd h h2
        · rename_i h2
          split at h
          · rename_i h3; exact absurd h h3
          · rename_i h3
            exact ⟨Classical.not_not.1 h0, Classical.not_not.1 h1, Classical.not_not.1 h2, Classical.not_not.1 h3⟩
  obtain ⟨h0, h1, h2, h3⟩ := hh
  have e := spl_len bs h0
  have e3 := secA_pl 3 (s2A bs).rest (s2A bs).pl
  change (s3A bs).pl + _ = _ ∧ _ at e3
  have a1 := secA_inv h1
  have a2 := secA_inv h2
  have a3 := secA_inv h3
  have b1 : (s1A bs).at_ + (s1A bs).part.length = (s1A bs).pl := a1.2.2.2.1
  have b2 : (s2A bs).at_ + (s2A bs).part.length = (s2A bs).pl := a2.2.2.2.1
  have b3 : (s3A bs).at_ + (s3A bs).part.length = (s3A bs).pl := a3.2.2.2.1
  have c1 : 5 ≤ (s1A bs).at_ := a1.2.2.2.2
  have c2 : (s1A bs).pl ≤ (s2A bs).at_ := a2.2.2.2.2
  have c3 : (s2A bs).pl ≤ (s3A bs).at_ := a3.2.2.2.2
  omega
attribute [local irreducible] callFunc Go.method J JL JO JR JR1 JRl Ct JG JM JM1 JQ JQ0 JS CtD LeavesQ RdB Er Gl by8 ibits stage
set_option maxHeartbeats 4000000 in
theorem alike_bad (bs : List UInt8) (hb : bs.length ≤ 1000000) (te : TypeId) (fz : Nat × Nat) (hZ : (splE bs).1 ≠ 0) : Ct Tryd.prog 15 #[str bs] [Gl te fz] (RetV (.bool true) [Gl te fz]) := by
  have hs := split_bad bs hb hZ
  have hd := dsplit_bad bs hb hZ
  have ht : ∀ q, Ct Tryd.prog 21 #[faultI q, faultV (splE bs).1 (splE bs).2] [Ft q (splE bs).1 (splE bs).2, Gl te fz] (RetV (.bool true) [Gl te fz]) := fun q => told_faultK q _ _ hZ te fz
  generalize splE bs = Z at *
  refine fn_ret (vs := [_]) Tryd.func15 rfl Tryd.ntmps15 (by simp) ?_
  repeat (first | (first | refine J_region ?_ | refine JL_nil ?_ | refine J_seq ?_) | (first | ((first | refine JL_step rfl ?_); first | refine JO_callE rfl hs rfl (fun q _ => ?_) | refine JO_move rfl rfl ?_ | refine JO_assign rfl rfl ?_ | refine JO_extract rfl rfl rfl ?_ | refine JO_allocA rfl (fun r => ?_) | refine JO_storeW rfl rfl (by rfl) (by rfl) (by first | decide | simp [Value.oneCell']) rfl ?_)))
  revert r
  intro n3
  repeat (first | (first | refine J_region ?_ | refine JL_nil ?_ | refine J_seq ?_) | (first | ((first | refine JL_step rfl ?_); first | refine JO_move rfl rfl ?_ | refine JO_loadW rfl (by rfl) rfl ?_ | refine JO_extract rfl rfl rfl ?_ | refine JO_allocA rfl (fun r => ?_) | refine JO_storeW rfl rfl (by rfl) (by rfl) (by first | decide | simp [Value.oneCell']) rfl ?_ | refine JO_callVP rfl (hd) rfl ?_)))
  rename_i _ n5
  revert r
  intro n6
  repeat (first | (first | refine J_region ?_ | refine JL_nil ?_ | refine J_seq ?_ | refine J_block ?_ | refine J_skip ?_ | refine J_condF rfl ?_) | (first | ((first | refine JL_step rfl ?_); first | refine JO_assign rfl rfl ?_ | refine JO_not rfl rfl ?_ | refine JO_callV' rfl (ht q) rfl ?_)))
  refine J_loop (β := { k : Nat // k ≤ 3 }) (fun k => [(3, ptr n3), (5, ptr n5), (7, .int .i64 (k.1 : Int))]) (fun _ => [])
    (fun _ => [pt n3 (.cells #[.pointer none, .pointer none, .pointer none] 37 (0, 0)), pt n5 (.cells #[.pointer none, .pointer none, .pointer none] 83 (0, 0)), Gl te fz]) (fun k => 3 - k.1) ⟨0, by simp⟩ ?_ rfl Ent.sel ?_
  · (repeat (first | exact sub_nil _ | refine sub_cons rfl ?_))
  rintro ⟨k, hk⟩
  dsimp only
  match k, hk with
    | 0, _ =>
      repeat (first | (first | refine J_region ?_ | refine JL_nil ?_ | refine J_seq ?_ | refine J_block ?_ | refine J_skip ?_ | refine J_condT rfl ?_) | (first | ((first | refine JL_step rfl ?_); first | refine JO_q (by simp) (JQ_lssT rfl rfl (by omega)) rfl ?_ | refine JO_move rfl rfl ?_)))
      repeat (first | refine J_regionG ?_ | refine JG_fin rfl ?_ | refine JG_n rfl rfl rfl (by kernel_rfl) (by kernel_rfl) rfl Ent.sel (by first | exact JQ_indexPK 0 (j := 0) rfl rfl (by omega) rfl | exact JQ_eqP rfl | exact JQ_neB0 rfl rfl | exact JQ_move rfl | exact JQ_loadB rfl) ?_)
      repeat (first | (first | refine J_region ?_ | refine JL_nil ?_ | refine J_seq ?_ | refine J_skip ?_ | refine J_condT rfl ?_ | refine J_condF rfl ?_ | refine J_exit ?_) | (first | ((first | refine JL_step rfl ?_); first | refine JO_q (by simp) (JQ_indexPK 0 (j := 0) rfl rfl (by omega) rfl) rfl ?_ | refine JO_q (by simp) (JQ_eqP rfl) rfl ?_ | refine JO_addN (b := 1) rfl rfl (by omega) rfl ?_ | refine JO_move rfl rfl ?_ | refine JO_assign rfl rfl ?_ | refine JO_load rfl rfl ?_)))
      exact ⟨⟨1, by omega⟩, by simp, by (repeat (first | exact sub_nil _ | refine sub_cons rfl ?_)), rfl, Ent.sel⟩
    | 1, _ =>
      repeat (first | (first | refine J_region ?_ | refine JL_nil ?_ | refine J_seq ?_ | refine J_block ?_ | refine J_skip ?_ | refine J_condT rfl ?_) | (first | ((first | refine JL_step rfl ?_); first | refine JO_q (by simp) (JQ_lssT rfl rfl (by omega)) rfl ?_ | refine JO_move rfl rfl ?_)))
      repeat (first | refine J_regionG ?_ | refine JG_fin rfl ?_ | refine JG_n rfl rfl rfl (by kernel_rfl) (by kernel_rfl) rfl Ent.sel (by first | exact JQ_indexPK 1 (j := 1) rfl rfl (by omega) rfl | exact JQ_eqP rfl | exact JQ_neB0 rfl rfl | exact JQ_move rfl | exact JQ_loadB rfl) ?_)
      repeat (first | (first | refine J_region ?_ | refine JL_nil ?_ | refine J_seq ?_ | refine J_skip ?_ | refine J_condT rfl ?_ | refine J_condF rfl ?_ | refine J_exit ?_) | (first | ((first | refine JL_step rfl ?_); first | refine JO_q (by simp) (JQ_indexPK 1 (j := 1) rfl rfl (by omega) rfl) rfl ?_ | refine JO_q (by simp) (JQ_eqP rfl) rfl ?_ | refine JO_addN (b := 1) rfl rfl (by omega) rfl ?_ | refine JO_move rfl rfl ?_ | refine JO_assign rfl rfl ?_ | refine JO_load rfl rfl ?_)))
      exact ⟨⟨2, by omega⟩, by simp, by (repeat (first | exact sub_nil _ | refine sub_cons rfl ?_)), rfl, Ent.sel⟩
    | 2, _ =>
      repeat (first | (first | refine J_region ?_ | refine JL_nil ?_ | refine J_seq ?_ | refine J_block ?_ | refine J_skip ?_ | refine J_condT rfl ?_) | (first | ((first | refine JL_step rfl ?_); first | refine JO_q (by simp) (JQ_lssT rfl rfl (by omega)) rfl ?_ | refine JO_move rfl rfl ?_)))
      repeat (first | refine J_regionG ?_ | refine JG_fin rfl ?_ | refine JG_n rfl rfl rfl (by kernel_rfl) (by kernel_rfl) rfl Ent.sel (by first | exact JQ_indexPK 2 (j := 2) rfl rfl (by omega) rfl | exact JQ_eqP rfl | exact JQ_neB0 rfl rfl | exact JQ_move rfl | exact JQ_loadB rfl) ?_)
      repeat (first | (first | refine J_region ?_ | refine JL_nil ?_ | refine J_seq ?_ | refine J_skip ?_ | refine J_condT rfl ?_ | refine J_condF rfl ?_ | refine J_exit ?_) | (first | ((first | refine JL_step rfl ?_); first | refine JO_q (by simp) (JQ_indexPK 2 (j := 2) rfl rfl (by omega) rfl) rfl ?_ | refine JO_q (by simp) (JQ_eqP rfl) rfl ?_ | refine JO_addN (b := 1) rfl rfl (by omega) rfl ?_ | refine JO_move rfl rfl ?_ | refine JO_assign rfl rfl ?_ | refine JO_load rfl rfl ?_)))
      exact ⟨⟨3, by omega⟩, by simp, by (repeat (first | exact sub_nil _ | refine sub_cons rfl ?_)), rfl, Ent.sel⟩
    | 3, _ =>
      repeat (first | (first | refine J_region ?_ | refine JL_nil ?_ | refine J_seq ?_ | refine J_condF rfl ?_ | refine J_exit ?_ | refine J_ret ?_) | (first | ((first | refine JL_step rfl ?_); first | refine JO_q (by simp) (JQ_lssF rfl rfl (by omega)) rfl ?_ | refine JO_move rfl rfl ?_ | refine JO_assign rfl rfl ?_)))
      exact ret_oneV rfl rfl Ent.sel
set_option maxHeartbeats 4000000 in
theorem alike_ok (bs : List UInt8) (hb : bs.length ≤ 1000000) (te : TypeId) (fz : Nat × Nat) (hZ : (splE bs).1 = 0) : Ct Tryd.prog 15 #[str bs] [Gl te fz] (RetV (.bool true) [Gl te fz]) := by
  have hs := split_ok bs hb hZ
  have hd := dsplit_ok bs hb hZ
  rw [spl_a hZ] at hd
  have hp := spl_parts hb hZ
  obtain ⟨b1, b2, b3⟩ : (0 ≤ (s1A bs).at_ ∧ (s1A bs).at_ + (s1A bs).part.length ≤ 1000000) ∧ (0 ≤ (s2A bs).at_ ∧ (s2A bs).at_ + (s2A bs).part.length ≤ 1000000) ∧ (0 ≤ (s3A bs).at_ ∧ (s3A bs).at_ + (s3A bs).part.length ≤ 1000000) := by omega
  have ht := told_none
  refine fn_ret (vs := [_]) Tryd.func15 rfl Tryd.ntmps15 (by simp) ?_
  repeat (first | (first | refine J_region ?_ | refine JL_nil ?_ | refine J_seq ?_) | (first | ((first | refine JL_step rfl ?_); first | refine JO_callE rfl hs rfl (fun x _ => ?_) | refine JO_move rfl rfl ?_ | refine JO_assign rfl rfl ?_ | refine JO_extract rfl rfl rfl ?_ | refine JO_allocA rfl (fun r => ?_) | refine JO_storeW rfl rfl (by rfl) (by rfl) (by first | decide | simp [Value.oneCell']) rfl ?_)))
  obtain ⟨a, b, c⟩ := x
  dsimp only at *
  revert r
  intro n3
  repeat (first | (first | refine J_region ?_ | refine JL_nil ?_ | refine J_seq ?_) | (first | ((first | refine JL_step rfl ?_); first | refine JO_callE rfl hd rfl (fun x _ => ?_) | refine JO_move rfl rfl ?_ | refine JO_loadW rfl (by rfl) rfl ?_ | refine JO_extract rfl rfl rfl ?_ | refine JO_allocA rfl (fun r => ?_) | refine JO_storeW rfl rfl (by rfl) (by rfl) (by first | decide | simp [Value.oneCell']) rfl ?_)))
  obtain ⟨a', b', c'⟩ := x
  dsimp only at *
  rename_i n5
  revert r
  intro n6
  repeat (first | (first | refine J_region ?_ | refine JL_nil ?_ | refine J_seq ?_ | refine J_block ?_ | refine J_skip ?_ | refine J_condF rfl ?_) | (first | ((first | refine JL_step rfl ?_); first | refine JO_assign rfl rfl ?_ | refine JO_not rfl rfl ?_ | refine JO_callVP rfl (ht) rfl ?_)))
  refine J_loop (β := { k : Nat // k ≤ 3 }) (fun k => [(3, ptr n3), (5, ptr n5), (7, .int .i64 (k.1 : Int))]) (fun _ => [])
    (fun k => stage k.1 [pt n3 (.cells #[ptr a, ptr b, ptr c] 37 (0, 0)), pt n5 (.cells #[ptr a', ptr b', ptr c'] 83 (0, 0)), RdB a (s1A bs).part (s1A bs).at_, RdB b (s2A bs).part (s2A bs).at_, RdB c (s3A bs).part (s3A bs).at_, Dr a' (s1A bs).part 0 (s1A bs).at_, Dr b' (s2A bs).part 0 (s2A bs).at_, Dr c' (s3A bs).part 0 (s3A bs).at_, Gl te fz] [pt n3 (.cells #[ptr a, ptr b, ptr c] 37 (0, 0)), pt n5 (.cells #[ptr a', ptr b', ptr c'] 83 (0, 0)), RdB b (s2A bs).part (s2A bs).at_, RdB c (s3A bs).part (s3A bs).at_, Dr a' (s1A bs).part 0 (s1A bs).at_, Dr b' (s2A bs).part 0 (s2A bs).at_, Dr c' (s3A bs).part 0 (s3A bs).at_, Gl te fz] [pt n3 (.cells #[ptr a, ptr b, ptr c] 37 (0, 0)), pt n5 (.cells #[ptr a', ptr b', ptr c'] 83 (0, 0)), RdB c (s3A bs).part (s3A bs).at_, Dr a' (s1A bs).part 0 (s1A bs).at_, Dr b' (s2A bs).part 0 (s2A bs).at_, Dr c' (s3A bs).part 0 (s3A bs).at_, Gl te fz] [pt n3 (.cells #[ptr a, ptr b, ptr c] 37 (0, 0)), pt n5 (.cells #[ptr a', ptr b', ptr c'] 83 (0, 0)), Dr a' (s1A bs).part 0 (s1A bs).at_, Dr b' (s2A bs).part 0 (s2A bs).at_, Dr c' (s3A bs).part 0 (s3A bs).at_, Gl te fz]) (fun k => 3 - k.1) ⟨0, by simp⟩ ?_ rfl (by rw [stage_0]; exact Ent.sel) ?_
  · (repeat (first | exact sub_nil _ | refine sub_cons rfl ?_))
  rintro ⟨k, hk⟩
  dsimp only
  match k, hk with
    | 0, _ =>
      rw [stage_0]
      repeat (first | (first | refine J_region ?_ | refine JL_nil ?_ | refine J_seq ?_ | refine J_block ?_ | refine J_skip ?_ | refine J_condT rfl ?_) | (first | ((first | refine JL_step rfl ?_); first | refine JO_q (by simp) (JQ_lssT rfl rfl (by omega)) rfl ?_ | refine JO_move rfl rfl ?_)))
      repeat (first | refine J_regionG ?_ | refine JG_fin rfl ?_ | refine JG_n rfl rfl rfl (by kernel_rfl) (by kernel_rfl) rfl Ent.sel (by first | exact JQ_indexPK 0 (j := 0) rfl rfl (by omega) rfl | exact JQ_eqP rfl | exact JQ_neB0 rfl rfl | exact JQ_move rfl | exact JQ_loadB rfl) ?_)
      have hr := rest_c a (s1A bs).part (s1A bs).at_ b1
      have hp := dplace_c a' (s1A bs).part 0 (s1A bs).at_ (by omega)
      repeat (first | (first | refine J_region ?_ | refine JL_nil ?_ | refine J_seq ?_ | refine J_skip ?_ | refine J_condF rfl ?_) | (first | ((first | refine JL_step rfl ?_ | refine JL_take rfl rfl ?_); first | refine JO_q (by simp) (JQ_indexPK 0 (j := 0) rfl rfl (by omega) rfl) rfl ?_ | refine JO_q (by simp) (JQ_eqP rfl) rfl ?_ | refine JO_q (by simp) (JQ_nilCheck rfl) rfl ?_ | refine JO_q (by simp) (JQ_neS0 rfl rfl) rfl ?_ | refine JO_q (by simp) (JQ_neF rfl rfl (by omega)) rfl ?_ | refine JO_addN (b := 1) rfl rfl (by omega) rfl ?_ | refine JO_move rfl rfl ?_ | refine JO_assign rfl rfl ?_ | refine JO_field0 rfl rfl ?_ | refine JO_load rfl rfl ?_ | refine JO_pickF rfl rfl rfl ?_ | refine JO_extract rfl rfl rfl ?_ | refine JO_callV' rfl (hr) rfl ?_ | refine JO_callV' rfl (hp) rfl ?_)))
      exact ⟨⟨1, by omega⟩, by simp, by (repeat (first | exact sub_nil _ | refine sub_cons rfl ?_)), rfl, by rw [stage_1]; exact Ent.sel (K := [pt n3 (.cells #[ptr a, ptr b, ptr c] 37 (0, 0)), pt n5 (.cells #[ptr a', ptr b', ptr c'] 83 (0, 0)), RdB b (s2A bs).part (s2A bs).at_, RdB c (s3A bs).part (s3A bs).at_, Dr a' (s1A bs).part 0 (s1A bs).at_, Dr b' (s2A bs).part 0 (s2A bs).at_, Dr c' (s3A bs).part 0 (s3A bs).at_, Gl te fz])⟩
    | 1, _ =>
      rw [stage_1]
      repeat (first | (first | refine J_region ?_ | refine JL_nil ?_ | refine J_seq ?_ | refine J_block ?_ | refine J_skip ?_ | refine J_condT rfl ?_) | (first | ((first | refine JL_step rfl ?_); first | refine JO_q (by simp) (JQ_lssT rfl rfl (by omega)) rfl ?_ | refine JO_move rfl rfl ?_)))
      repeat (first | refine J_regionG ?_ | refine JG_fin rfl ?_ | refine JG_n rfl rfl rfl (by kernel_rfl) (by kernel_rfl) rfl Ent.sel (by first | exact JQ_indexPK 1 (j := 1) rfl rfl (by omega) rfl | exact JQ_eqP rfl | exact JQ_neB0 rfl rfl | exact JQ_move rfl | exact JQ_loadB rfl) ?_)
      have hr := rest_c b (s2A bs).part (s2A bs).at_ b2
      have hp := dplace_c b' (s2A bs).part 0 (s2A bs).at_ (by omega)
      repeat (first | (first | refine J_region ?_ | refine JL_nil ?_ | refine J_seq ?_ | refine J_skip ?_ | refine J_condF rfl ?_) | (first | ((first | refine JL_step rfl ?_ | refine JL_take rfl rfl ?_); first | refine JO_q (by simp) (JQ_indexPK 1 (j := 1) rfl rfl (by omega) rfl) rfl ?_ | refine JO_q (by simp) (JQ_eqP rfl) rfl ?_ | refine JO_q (by simp) (JQ_nilCheck rfl) rfl ?_ | refine JO_q (by simp) (JQ_neS0 rfl rfl) rfl ?_ | refine JO_q (by simp) (JQ_neF rfl rfl (by omega)) rfl ?_ | refine JO_addN (b := 1) rfl rfl (by omega) rfl ?_ | refine JO_move rfl rfl ?_ | refine JO_assign rfl rfl ?_ | refine JO_field0 rfl rfl ?_ | refine JO_load rfl rfl ?_ | refine JO_pickF rfl rfl rfl ?_ | refine JO_extract rfl rfl rfl ?_ | refine JO_callV' rfl (hr) rfl ?_ | refine JO_callV' rfl (hp) rfl ?_)))
      exact ⟨⟨2, by omega⟩, by simp, by (repeat (first | exact sub_nil _ | refine sub_cons rfl ?_)), rfl, by rw [stage_2]; exact Ent.sel (K := [pt n3 (.cells #[ptr a, ptr b, ptr c] 37 (0, 0)), pt n5 (.cells #[ptr a', ptr b', ptr c'] 83 (0, 0)), RdB c (s3A bs).part (s3A bs).at_, Dr a' (s1A bs).part 0 (s1A bs).at_, Dr b' (s2A bs).part 0 (s2A bs).at_, Dr c' (s3A bs).part 0 (s3A bs).at_, Gl te fz])⟩
    | 2, _ =>
      rw [stage_2]
      repeat (first | (first | refine J_region ?_ | refine JL_nil ?_ | refine J_seq ?_ | refine J_block ?_ | refine J_skip ?_ | refine J_condT rfl ?_) | (first | ((first | refine JL_step rfl ?_); first | refine JO_q (by simp) (JQ_lssT rfl rfl (by omega)) rfl ?_ | refine JO_move rfl rfl ?_)))
      repeat (first | refine J_regionG ?_ | refine JG_fin rfl ?_ | refine JG_n rfl rfl rfl (by kernel_rfl) (by kernel_rfl) rfl Ent.sel (by first | exact JQ_indexPK 2 (j := 2) rfl rfl (by omega) rfl | exact JQ_eqP rfl | exact JQ_neB0 rfl rfl | exact JQ_move rfl | exact JQ_loadB rfl) ?_)
      have hr := rest_c c (s3A bs).part (s3A bs).at_ b3
      have hp := dplace_c c' (s3A bs).part 0 (s3A bs).at_ (by omega)
      repeat (first | (first | refine J_region ?_ | refine JL_nil ?_ | refine J_seq ?_ | refine J_skip ?_ | refine J_condF rfl ?_) | (first | ((first | refine JL_step rfl ?_ | refine JL_take rfl rfl ?_); first | refine JO_q (by simp) (JQ_indexPK 2 (j := 2) rfl rfl (by omega) rfl) rfl ?_ | refine JO_q (by simp) (JQ_eqP rfl) rfl ?_ | refine JO_q (by simp) (JQ_nilCheck rfl) rfl ?_ | refine JO_q (by simp) (JQ_neS0 rfl rfl) rfl ?_ | refine JO_q (by simp) (JQ_neF rfl rfl (by omega)) rfl ?_ | refine JO_addN (b := 1) rfl rfl (by omega) rfl ?_ | refine JO_move rfl rfl ?_ | refine JO_assign rfl rfl ?_ | refine JO_field0 rfl rfl ?_ | refine JO_load rfl rfl ?_ | refine JO_pickF rfl rfl rfl ?_ | refine JO_extract rfl rfl rfl ?_ | refine JO_callV' rfl (hr) rfl ?_ | refine JO_callV' rfl (hp) rfl ?_)))
      exact ⟨⟨3, by omega⟩, by simp, by (repeat (first | exact sub_nil _ | refine sub_cons rfl ?_)), rfl, by rw [stage_3]; exact Ent.sel (K := [pt n3 (.cells #[ptr a, ptr b, ptr c] 37 (0, 0)), pt n5 (.cells #[ptr a', ptr b', ptr c'] 83 (0, 0)), Dr a' (s1A bs).part 0 (s1A bs).at_, Dr b' (s2A bs).part 0 (s2A bs).at_, Dr c' (s3A bs).part 0 (s3A bs).at_, Gl te fz])⟩
    | 3, _ =>
      rw [stage_3]
      repeat (first | (first | refine J_region ?_ | refine JL_nil ?_ | refine J_seq ?_ | refine J_condF rfl ?_ | refine J_exit ?_ | refine J_ret ?_) | (first | ((first | refine JL_step rfl ?_); first | refine JO_q (by simp) (JQ_lssF rfl rfl (by omega)) rfl ?_ | refine JO_move rfl rfl ?_ | refine JO_assign rfl rfl ?_)))
      exact ret_oneV rfl rfl Ent.sel
theorem alike_c (bs : List UInt8) (hb : bs.length ≤ 1000000) (te : TypeId) (fz : Nat × Nat) : Ct Tryd.prog 15 #[str bs] [Gl te fz] (RetV (.bool true) [Gl te fz]) := by
  by_cases h : (splE bs).1 = 0
  · exact alike_ok bs hb te fz h
  · exact alike_bad bs hb te fz h
theorem fails_c (bs : List UInt8) (hb : bs.length ≤ 1000000) (c a : Int) (te : TypeId) (fz : Nat × Nat) (h : splE bs = (c, a)) (hc : c ≠ 0) : Ct Tryd.prog 22 #[str bs, .int .i64 c, .int .i64 a] [Gl te fz] (RetV (.bool true) [Gl te fz]) := by
  have hs := split_bad bs hb (by rw [h]; exact hc)
  rw [h] at hs
  have ht : ∀ q, Ct Tryd.prog 21 #[faultI q, faultV c a] [Ft q c a, Gl te fz] (RetV (.bool true) [Gl te fz]) := fun q => told_faultK q _ _ hc te fz
  refine fn_ret (vs := [_, _, _]) Tryd.func22 rfl Tryd.ntmps22 (by simp) ?_
  repeat (first | (first | refine J_region ?_ | refine JL_nil ?_ | refine J_seq ?_) | (first | ((first | refine JL_step rfl ?_); first | refine JO_callE rfl hs rfl (fun q _ => ?_) | refine JO_move rfl rfl ?_ | refine JO_assign rfl rfl ?_ | refine JO_extract rfl rfl rfl ?_ | refine JO_allocA rfl (fun r => ?_) | refine JO_storeW rfl rfl (by rfl) (by rfl) (by first | decide | simp [Value.oneCell']) rfl ?_)))
  revert r
  intro n3
  repeat (first | (first | refine JL_nil ?_ | refine J_ret ?_) | (first | ((first | refine JL_step rfl ?_ | refine JL_take rfl rfl ?_); first | refine JO_build (cs := [.int .i64 c, .int .i64 a]) rfl rfl rfl ?_ | refine JO_q (by simp) (JQ_indexPK 0 (j := 0) rfl rfl (by omega) rfl) rfl ?_ | refine JO_q (by simp) (JQ_indexPK 1 (j := 1) rfl rfl (by omega) rfl) rfl ?_ | refine JO_q (by simp) (JQ_indexPK 2 (j := 2) rfl rfl (by omega) rfl) rfl ?_ | refine JO_q (by simp) (JQ_eqP rfl) rfl ?_ | refine JO_move rfl rfl ?_ | refine JO_assign rfl rfl ?_ | refine JO_load rfl rfl ?_ | refine JO_pickT rfl rfl rfl ?_ | refine JO_callV' rfl (ht q) rfl ?_)))
  exact ret_oneV rfl rfl Ent.sel
end Go.Proofs.YtfelcdbhlahehaaDoor

/- Arrays built of their parts. -/
namespace Go.Sp
open Go.RowKit
theorem fill_more {p q : Nat → Option (Nat × Nat)} (h : ∀ i x, p i = some x → q i = some x) : ∀ (parts : List (Nat × Value)) (cells r : Array Value), Instr.fill p cells parts = some r → Instr.fill q cells parts = some r := by
  intro parts
  induction parts with
  | nil => intro cells r h1; exact h1
  | cons x parts ih =>
    intro cells r h1
    obtain ⟨i, v⟩ := x
    simp only [Instr.fill] at h1 ⊢
    cases hp : p i with
    | none => simp [hp] at h1
    | some y =>
      rw [hp] at h1
      rw [h i y hp]
      obtain ⟨off, size⟩ := y
      simp only at h1 ⊢
      split at h1
      · cases h1
      · rename_i h2
        rw [if_neg h2]
        exact ih _ _ h1
abbrev arrPl (len sz : Nat) : List (Nat × Nat) := (List.range len).map fun i => (i * sz, sz)
section
variable {P : Program} {N : Nat} {rd : Option Nat} {E : Env} {D : List Deferred} {L : List HP} {Q : Post} {next : Env → List Deferred → List HP → Prop}
variable {d : Option Nat} {ty : TypeId} {pos : String} {after : Array Edge} {g : Option (Nat × Bool)}
theorem JQ_buildA {t e len : Nat} [TU P t (.array len e)] {zc : List Value} {n k : Nat} [TI P t (.agg zc.toArray) n k] {z : Value} {sz k2 : Nat} [TI P e z sz k2] {parts : Array (Nat × Operand)} {vs : List (Nat × Value)} {cs : List Value} (hp : pevs E parts.toList = some vs) (hf : fillL (arrPl len sz) zc vs = some cs) :
    JQ P N ⟨d, .build t parts, ty, pos, after, g⟩ E D L (.agg cs.toArray) := fun F a hr w hs => by
  obtain ⟨i, h1, h2, h3, h4⟩ := TI.h (P := P) (t := t) (z := .agg zc.toArray) (n := n) (b := k)
  obtain ⟨i2, g1, g2, g3, g4⟩ := TI.h (P := P) (t := e) (z := z) (n := sz) (b := k2)
  have h6 := fill_eq (arrPl len sz) vs zc cs hf
  have h7 := hr.pevs hp
  have h8 : Instr.fill (fun i => some (i * sz, sz)) zc.toArray vs = some cs.toArray := by
    refine fill_more (fun i x hx => ?_) _ _ _ h6
    have hx' : (arrPl len sz)[i]? = some x := by simpa using hx
    simp only [arrPl, List.getElem?_map, Option.map_eq_some_iff] at hx'
    obtain ⟨j, hj, rfl⟩ := hx'
    have := (List.getElem?_eq_some_iff.1 hj).2
    simp at this
    rw [this]
  simp [execOp, Instr.build, run_zeroValue' h1 h2, run_underlying' (TU.h (P := P) (t := t)), run_sizeOf' g1, g3, Value.cells, Array.toList_map, h7, h8]
theorem JO_buildA {t e len : Nat} [TU P t (.array len e)] {zc : List Value} {n k : Nat} [TI P t (.agg zc.toArray) n k] {z : Value} {sz k2 : Nat} [TI P e z sz k2] {parts : Array (Nat × Operand)} {vs : List (Nat × Value)} {cs : List Value} (hp : pevs E parts.toList = some vs) (hf : fillL (arrPl len sz) zc vs = some cs)
    (hd : dok N d = true) (h : next (put E d (.agg cs.toArray)) D L) : JO P N rd ⟨d, .build t parts, ty, pos, after, g⟩ E D L next Q :=
  JO_q (by simp) (JQ_buildA hp hf) hd h
end
end Go.Sp

/- Layer 3: the chapter's examples; where the parts stand. -/
namespace Go.Proofs.YtfelcdbhlahehaaDoor
open Go Go.Sp
abbrev hdB : List UInt8 := [67, 76, 81, 89, 1]
abbrev mB : List UInt8 := hdB ++ [1, 1, 97, 2, 0, 3, 2, 98, 99]
theorem jm : joinA [97] [] [98, 99] = (mB, 0) := by simp [joinA, joinL, secL, headL, encU_lt]
theorem k0 : (splE mB).1 = 0 := by rfl
theorem k1 : (s1A mB).part = [97] ∧ (s1A mB).at_ = 7 ∧ (s2A mB).part = [] ∧ (s2A mB).at_ = 10 ∧ (s3A mB).part = [98, 99] ∧ (s3A mB).at_ = 12 := ⟨rfl, rfl, rfl, rfl, rfl, rfl⟩
theorem k2 : splE [] = (6, 0) := rfl
theorem k3 : splE [67, 76, 81, 88] = (6, 3) := rfl
theorem k4 : splE hdB = (3, 5) := rfl
theorem k5 : splE (mB ++ [120]) = (4, 14) := rfl
theorem k6 : splE (hdB ++ [2, 0]) = (7, 5) := rfl
theorem k7 : splE (hdB ++ [1, 5, 97]) = (3, 7) := rfl
/-- A text that is split is its parts, joined. -/
theorem spl_all {bs : List UInt8} (h : (splE bs).1 = 0) : bs = joinL (s1A bs).part (s2A bs).part (s3A bs).part ∧ (s1A bs).part.length ≤ 65536 ∧ (s2A bs).part.length ≤ 65536 ∧ (s3A bs).part.length ≤ 65536 := by
  obtain ⟨x, y, z, i, j, k, h1, h2, h3⟩ := spl_inv h
  unfold splP at h1
  rw [if_neg (by simpa using h)] at h1
  simp only [List.cons.injEq, Prod.mk.injEq, and_true] at h1
  obtain ⟨⟨e1, _⟩, ⟨e2, _⟩, ⟨e3, _⟩⟩ := h1
  rw [e1, e2, e3]
  exact ⟨h2, h3⟩
theorem slice_mid (A x R : List UInt8) : ((A ++ (x ++ R)).take (A.length + x.length)).drop A.length = x := by
  rw [← List.append_assoc, show A.length + x.length = (A ++ x).length from by simp, List.take_left, List.drop_left]
/-- Each part stands at its place. -/
theorem spl_at {bs : List UInt8} (h : (splE bs).1 = 0) : (∃ A R, bs = A ++ ((s1A bs).part ++ R) ∧ (s1A bs).at_ = A.length) ∧ (∃ A R, bs = A ++ ((s2A bs).part ++ R) ∧ (s2A bs).at_ = A.length) ∧ (∃ A R, bs = A ++ ((s3A bs).part ++ R) ∧ (s3A bs).at_ = A.length) := by
  obtain ⟨h0, h1, h2, h3⟩ := spl_all h
  have hl := spl_lay (s1A bs).part (s2A bs).part (s3A bs).part [] h1 h2 h3
  rw [List.append_nil, ← h0] at hl
  generalize (s1A bs).part = x at *
  generalize (s2A bs).part = y at *
  generalize (s3A bs).part = z at *
  refine ⟨⟨headL ++ 1 :: encU x.length, secL 2 y ++ secL 3 z, ?_, ?_⟩, ⟨headL ++ (secL 1 x ++ 2 :: encU y.length), secL 3 z, ?_, ?_⟩, ⟨headL ++ (secL 1 x ++ (secL 2 y ++ 3 :: encU z.length)), [], ?_, ?_⟩⟩
  · rw [h0]; simp [joinL, secL]
  · rw [hl.2.2.2.1]; simp [headL]; omega
  · rw [h0]; simp [joinL, secL]
  · rw [hl.2.2.2.2.2.2.1]; simp [headL]; omega
  · rw [h0]; simp [joinL, secL]
  · rw [hl.2.2.2.2.2.2.2.2.2.1]; simp [headL]; omega
theorem join_back {bs : List UInt8} (h : (splE bs).1 = 0) : joinA (s1A bs).part (s2A bs).part (s3A bs).part = (bs, 0) := by
  obtain ⟨h0, h1, h2, h3⟩ := spl_all h
  unfold joinA
  rw [if_pos ⟨h1, h2, h3⟩, ← h0]
theorem joinL_len (x y z : List UInt8) (hx : x.length ≤ 200000) (hy : y.length ≤ 200000) (hz : z.length ≤ 200000) : (joinL x y z).length ≤ 700000 := by
  have := acc_len x y z 3 hx hy hz
  rwa [show accL x y z 3 = joinL x y z from by simp [joinL, accL]] at this
attribute [local irreducible] callFunc Go.method J JL JO JR JR1 JRl Ct JG JM JM1 JQ JQ0 JS CtD LeavesQ RdB Er Gl by8 ibits joinA splE s1A s2A s3A
set_option maxRecDepth 8000 in
set_option maxHeartbeats 4000000 in
theorem works3_c (te : TypeId) (fz : Nat × Nat) : Ct Tryd.prog 17 #[] [Gl te fz] (RetV (.bool true) [Gl te fz]) := by
  have hj := join_c [97] [] [98, 99] (by decide) (by decide) (by decide)
  rw [jm] at hj
  have hs := split_ok mB (by decide) k0
  rw [k1.1, k1.2.1, k1.2.2.1, k1.2.2.2.1, k1.2.2.2.2.1, k1.2.2.2.2.2] at hs
  have f1 := fails_c [] (by decide) 6 0 te fz k2 (by decide)
  have f2 := fails_c [67, 76, 81, 88] (by decide) 6 3 te fz k3 (by decide)
  have f3 := fails_c hdB (by decide) 3 5 te fz k4 (by decide)
  have f4 := fails_c (mB ++ [120]) (by decide) 4 14 te fz k5 (by decide)
  have f5 := fails_c (hdB ++ [2, 0]) (by decide) 7 5 te fz k6 (by decide)
  have f6 := fails_c (hdB ++ [1, 5, 97]) (by decide) 3 7 te fz k7 (by decide)
  refine fn_ret (vs := []) Tryd.func17 rfl Tryd.ntmps17 (by simp) ?_
  repeat (first | (first | refine J_region ?_ | refine JL_nil ?_ | refine J_seq ?_) | (first | ((first | refine JL_step rfl ?_ | refine JL_take rfl rfl ?_); first | refine JO_q (by simp) (JQ_addS (a := hdB) rfl rfl (by simp)) rfl ?_ | refine JO_buildA (cs := [str [97], str [], str [98, 99]]) rfl rfl rfl ?_ | refine JO_callE rfl hs rfl (fun x _ => ?_) | refine JO_move rfl rfl ?_ | refine JO_assign rfl rfl ?_ | refine JO_neI rfl rfl rfl ?_ | refine JO_extract rfl rfl rfl ?_ | refine JO_allocA rfl (fun r => ?_) | refine JO_storeW rfl rfl (by rfl) (by rfl) (by first | decide | simp [Value.oneCell']) rfl ?_ | refine JO_callVP rfl (hj) rfl ?_)))


  obtain ⟨a, b, c⟩ := x
  dsimp only at *
  revert r
  intro n3
  have r1 := rest_c a [97] 7 (by decide)
  have r2 := rest_c b [] 10 (by decide)
  have r3 := rest_c c [98, 99] 12 (by decide)
  repeat (first | (first | refine J_region ?_ | refine JL_nil ?_ | refine J_seq ?_ | refine J_skip ?_ | refine J_condF rfl ?_ | refine J_ret ?_) | (first | ((first | refine JL_step rfl ?_ | refine JL_take rfl rfl ?_); first | refine JO_q (by simp) (JQ_addS (a := mB) rfl rfl (by simp)) rfl ?_ | refine JO_q (by simp) (JQ_addS (a := hdB) rfl rfl (by simp)) rfl ?_ | refine JO_q (by simp) (JQ_neS0 rfl rfl) rfl ?_ | refine JO_q (by simp) (JQ_neIf0 rfl) rfl ?_ | refine JO_q (by simp) (JQ_indexPK 0 (j := 0) rfl rfl (by omega) rfl) rfl ?_ | refine JO_q (by simp) (JQ_indexPK 1 (j := 1) rfl rfl (by omega) rfl) rfl ?_ | refine JO_q (by simp) (JQ_indexPK 2 (j := 2) rfl rfl (by omega) rfl) rfl ?_ | refine JO_q (by simp) (JQ_eqP rfl) rfl ?_ | refine JO_q (by simp) (JQ_eqS0 rfl rfl) rfl ?_ | refine JO_q (by simp) (JQ_eqI00 rfl rfl) rfl ?_ | refine JO_move rfl rfl ?_ | refine JO_assign rfl rfl ?_ | refine JO_load rfl rfl ?_ | refine JO_pickT rfl rfl rfl ?_ | refine JO_pickF rfl rfl rfl ?_ | refine JO_extract rfl rfl rfl ?_ | refine JO_callV' rfl (r1) rfl ?_ | refine JO_callV' rfl (r2) rfl ?_ | refine JO_callV' rfl (r3) rfl ?_ | refine JO_callVP rfl (f1) rfl ?_ | refine JO_callVP rfl (f2) rfl ?_ | refine JO_callVP rfl (f3) rfl ?_ | refine JO_callVP rfl (f4) rfl ?_ | refine JO_callVP rfl (f5) rfl ?_ | refine JO_callVP rfl (f6) rfl ?_)))

  exact ret_oneV rfl rfl Ent.sel
end Go.Proofs.YtfelcdbhlahehaaDoor

/- Layer 3: SectSplits' and SectJoins' walks. -/
namespace Go.Proofs.YtfelcdbhlahehaaDoor
open Go Go.Sp
theorem join_ok (x y z : List UInt8) (hx : x.length ≤ 300) (hy : y.length ≤ 300) (hz : z.length ≤ 300) : joinA x y z = (joinL x y z, 0) := by
  unfold joinA
  rw [if_pos (by omega)]
theorem nought0 : noughts 0 = [] := rfl
theorem noughts_len (n : Nat) : (noughts n).length < 70000 := by simp only [noughts, List.length_replicate]; exact Nat.mod_lt _ (by decide)
attribute [local irreducible] callFunc Go.method J JL JO JR JR1 JRl Ct JG JM JM1 JQ JQ0 JS CtD LeavesQ RdB Er Gl by8 ibits joinA joinL splE s1A s2A s3A cut300 noughts
set_option maxRecDepth 8000 in
set_option maxHeartbeats 4000000 in
theorem sectSplits_c (s x y z : List UInt8) (at_ by_ : Nat) (stay : Int) (hs : s.length ≤ maxLen) (hx : x.length ≤ maxLen) (hy : y.length ≤ maxLen) (hz : z.length ≤ maxLen) (hat : at_ < 65536) (te : TypeId) (fz : Nat × Nat) :
    Ct Tryd.prog 3 #[str s, .agg #[str x, str y, str z], .agg #[.int .u16 (at_ : Int), .int .u8 (by_ : Int), .int .i64 stay]] [Gl te fz] (RetV (.bool true) []) := by
  have ht := texts_c x y z 0 (by decide) hx hy hz
  have h1 := cut300_len x
  have h2 := cut300_len y
  have h3 := cut300_len z
  rw [nought0, List.append_nil] at ht
  generalize cut300 x = X at *
  generalize cut300 y = Y at *
  generalize cut300 z = Z at *
  have hj := djoin_c X Y Z (by omega) (by omega) (by omega)
  rw [join_ok X Y Z h1 h2 h3] at hj
  have hl := joinL_len X Y Z (by omega) (by omega) (by omega)
  generalize joinL X Y Z = m at *
  dsimp only at hj
  have hmn : min s.length 2000 ≤ s.length := Nat.min_le_left _ _
  have a1 := alike_c (s.take (min s.length 2000)) (by rw [List.length_take]; omega) te fz
  have a2 := alike_c m (by omega) te fz
  have tu := turned_c m at_ by_ stay hat (by omega)
  have w := works3_c te fz
  refine fn_ret (vs := [_, _, _]) Tryd.func3 rfl Tryd.ntmps3 (by simp) ?_
  repeat (first | (first | refine J_region ?_ | refine JL_nil ?_ | refine J_seq ?_) | (first | ((first | refine JL_step rfl ?_ | refine JL_take rfl rfl ?_); first | refine JO_q (by simp) (JQ_lenB rfl) rfl ?_ | refine JO_minN (n := 2000) rfl rfl rfl ?_ | refine JO_q (by simp) (JQ_headS (bs := s) (h := min s.length 2000) rfl rfl hmn) rfl ?_ | refine JO_callE rfl tu rfl (fun u hu => ?_) | refine JO_move rfl rfl ?_ | refine JO_assign rfl rfl ?_ | refine JO_loadW rfl (by rfl) rfl ?_ | refine JO_pickT rfl rfl rfl ?_ | refine JO_extract rfl rfl rfl ?_ | refine JO_boxA rfl rfl (fun r => ?_) | refine JO_callVP rfl (ht) rfl ?_ | refine JO_callVP rfl (hj) rfl ?_ | refine JO_callVP rfl (a1) rfl ?_ | refine JO_callVP rfl (a2) rfl ?_)))
  have a3 := alike_c u (by omega) te fz
  repeat (first | (first | refine JL_nil ?_ | refine J_ret ?_) | (first | ((first | refine JL_step rfl ?_ | refine JL_take rfl rfl ?_); first | refine JO_move rfl rfl ?_ | refine JO_assign rfl rfl ?_ | refine JO_pickT rfl rfl rfl ?_ | refine JO_callVP rfl (a3) rfl ?_ | refine JO_callVP rfl (w) rfl ?_)))
  exact ret_oneV rfl rfl .nil
set_option maxRecDepth 8000 in
set_option maxHeartbeats 4000000 in
theorem sectJoins_c (x y z : List UInt8) (n : Nat) (hn : n < 4294967296) (hx : x.length ≤ maxLen) (hy : y.length ≤ maxLen) (hz : z.length ≤ maxLen) (te : TypeId) (fz : Nat × Nat) :
    Ct Tryd.prog 4 #[.agg #[str x, str y, str z], .int .u32 (n : Int)] [Gl te fz] (RetV (.bool true) []) := by
  have ht := texts_c x y z n hn hx hy hz
  have h1 := cut300_len x
  have h2 := cut300_len y
  have h3 := cut300_len z
  have h4 := noughts_len n
  have h5 : (cut300 x ++ noughts n).length ≤ 200000 := by rw [List.length_append]; omega
  generalize cut300 x ++ noughts n = X at *
  generalize cut300 y = Y at *
  generalize cut300 z = Z at *
  have hj := join_c X Y Z h5 (by omega) (by omega)
  have hd := djoin_c X Y Z h5 (by omega) (by omega)
  generalize joinA X Y Z = m at *
  have w := works3_c te fz
  refine fn_ret (vs := [_, _]) Tryd.func4 rfl Tryd.ntmps4 (by simp) ?_
  repeat (first | (first | refine J_region ?_ | refine JL_nil ?_ | refine J_seq ?_ | refine J_ret ?_) | (first | ((first | refine JL_step rfl ?_ | refine JL_take rfl rfl ?_); first | refine JO_q (by simp) (JQ_eqS0 rfl rfl) rfl ?_ | refine JO_q (by simp) (JQ_eqI00 rfl rfl) rfl ?_ | refine JO_move rfl rfl ?_ | refine JO_assign rfl rfl ?_ | refine JO_loadW rfl (by rfl) rfl ?_ | refine JO_pickT rfl rfl rfl ?_ | refine JO_extract rfl rfl rfl ?_ | refine JO_boxA rfl rfl (fun r => ?_) | refine JO_allocA rfl (fun r => ?_) | refine JO_storeW rfl rfl (by rfl) (by rfl) (by first | decide | simp [Value.oneCell']) rfl ?_ | refine JO_callVP rfl (ht) rfl ?_ | refine JO_callVP rfl (hj) rfl ?_ | refine JO_callVP rfl (hd) rfl ?_ | refine JO_callVP rfl (w) rfl ?_)))
  exact ret_oneV rfl rfl .nil
end Go.Proofs.YtfelcdbhlahehaaDoor

/- Texts that differ; arrays of three texts that are the same. -/
namespace Go.Sp
open Go.RowKit
section
variable {P : Program} {N : Nat} {rd : Option Nat} {E : Env} {D : List Deferred} {L : List HP} {Q : Post} {next : Env → List Deferred → List HP → Prop}
variable {d : Option Nat} {ty : TypeId} {pos : String} {after : Array Edge} {g : Option (Nat × Bool)}
theorem JQ_eqS1 {x y : Operand} {t u : TypeId} {a b : List UInt8} (hx : ev E x = some (str a)) (hy : ev E y = some (str b)) (h : a ≠ b) : JQ P N ⟨d, .binOp .eql t x y u, ty, pos, after, g⟩ E D L (.bool false) := by
  have := JQ_eqS (P := P) (N := N) (D := D) (L := L) (d := d) (ty := ty) (pos := pos) (after := after) (g := g) (t := t) (u := u) hx hy
  rwa [decide_eq_false h] at this
theorem JQ_neS1 {x y : Operand} {t u : TypeId} {a b : List UInt8} (hx : ev E x = some (str a)) (hy : ev E y = some (str b)) (h : a ≠ b) : JQ P N ⟨d, .binOp .neq t x y u, ty, pos, after, g⟩ E D L (.bool true) := by
  have := JQ_neS (P := P) (N := N) (D := D) (L := L) (d := d) (ty := ty) (pos := pos) (after := after) (g := g) (t := t) (u := u) hx hy
  rwa [decide_eq_true h] at this
theorem run_eqA3 {t e : TypeId} [TU P t (.array 3 e)] [TU P e .string] {z : Value} {k : Nat} [TI P e z 1 k] (n : Nat) (a b c : List UInt8) (w : World) : (Op.equalIn (n + 2) t (.agg #[str a, str b, str c]) (.agg #[str a, str b, str c])).run P w = .ok true w := by
  obtain ⟨i, h1, h2, h3, h4⟩ := TI.h (P := P) (t := e) (z := z) (n := 1) (b := k)
  have hs : ∀ (x : List UInt8) (w : World), (Op.equalIn (n + 1) e (str x) (str x)).run P w = .ok true w := fun x w => by
    rw [run_equalIn_string w n e _ _ TU.h]
    simp
  have ht1 : T1 P e := ⟨⟨_, TU.h, (fun fs h => by cases h), (fun n e h => by cases h)⟩⟩
  have hp : ∀ (j : Nat) (x : List UInt8) (w : World), (#[str a, str b, str c] : Array Value)[j]? = some (str x) → (part e #[str a, str b, str c] j).run P w = .ok (str x) w := fun j x w hj => by
    simp [part, run_isAgg1, hj]
  have p0 := fun w => hp 0 a w rfl
  have p1 := fun w => hp 1 b w rfl
  have p2 := fun w => hp 2 c w rfl
  rw [show n + 2 = (n + 1) + 1 from rfl, Op.equalIn]
  simp [run_underlying' (TU.h (P := P) (t := t)), run_sizeOf' h1, h3, Std.Legacy.Range.forIn_eq_forIn_range', Std.Legacy.Range.size, List.range', p0, p1, p2, hs]
theorem JQ_neA3 {x y : Operand} {t e u : TypeId} [TU P t (.array 3 e)] [TU P e .string] {z : Value} {k : Nat} [TI P e z 1 k] (hm : P.eqGuardType P.depth t = false) {a b c : List UInt8} (hx : ev E x = some (.agg #[str a, str b, str c])) (hy : ev E y = some (.agg #[str a, str b, str c])) : JQ P N ⟨d, .binOp .neq t x y u, ty, pos, after, g⟩ E D L (.bool false) := fun F ac hr w hs => by
  have h1 := run_eqGuard_agg (P := P) w .neq t x y #[str a, str b, str c] #[str a, str b, str c] hm
  have h2 := run_neq_struct (P := P) w t #[str a, str b, str c] #[str a, str b, str c]
  have h3 := run_eqA3 (P := P) (t := t) (e := e) 9998 a b c w
  rw [show (10000 : Nat) = 9998 + 2 from rfl, h3] at h2
  simp [execOp, hr.eval hx, hr.eval hy, h1, h2]
end
end Go.Sp

/- Layer 3: SectKnown's walk. -/
namespace Go.Proofs.YtfelcdbhlahehaaDoor
open Go Go.Sp
theorem e1 : splE [67, 76, 81, 89, 2] = (6, 4) := rfl
theorem e2 : splE [120, 76, 81, 89, 1] = (6, 0) := rfl
theorem e3 : splE (hdB ++ [1, 128, 0]) = (5, 6) := rfl
theorem e4 : splE (hdB ++ [1, 129, 128, 4]) = (4, 6) := rfl
theorem e5 : splE (hdB ++ [1]) = (3, 6) := rfl
theorem e6 : splE (hdB ++ [1, 0, 1, 0]) = (7, 7) := rfl
theorem e7 : splE (hdB ++ [1, 0, 2, 0]) = (3, 9) := rfl
theorem e8 : splE (hdB ++ [1, 0, 2, 0, 3, 1]) = (3, 11) := rfl
theorem e9 : splE (hdB ++ [1, 0, 2, 0, 3, 0, 0]) = (4, 11) := rfl
theorem enc64k : (encU 65536).length = 3 := by
  rw [encU_ge (by decide), show 65536 / 128 = 512 from rfl, encU_ge (by decide), show 512 / 128 = 4 from rfl, encU_lt (by decide)]
  rfl
theorem big_ : ∃ big : List UInt8, madeCells (Value.int .u8 0).cells (65536 * 1) = (by8 big).toArray ∧ big.length = 65536 := ⟨_, madeBytes 65536, List.length_replicate⟩
theorem big_at (b : List UInt8) (h : b.length = 65536) : joinA b b b = (joinL b b b, 0) ∧ (joinL b b b).length = 196625 ∧ splE (joinL b b b) = (0, 0) ∧ (s3A (joinL b b b)).at_ = 131089 ∧ (s3A (joinL b b b)).part = b ∧ joinA [] (b ++ [120]) [] = ([], 4) := by
  have hs := spl_lay b b b [] (by omega) (by omega) (by omega)
  rw [List.append_nil] at hs
  have hl : ∀ i, (secL i b).length = 65540 := fun i => by simp [secL, h, enc64k]
  refine ⟨by unfold joinA; rw [if_pos (by omega)], ?_, (spl_join b b b (by omega) (by omega) (by omega)).1, ?_, hs.2.2.2.2.2.2.2.2.1, ?_⟩
  · simp only [joinL, List.length_append, hl]; simp [headL]
  · rw [hs.2.2.2.2.2.2.2.2.2.1, hl, hl, h, enc64k]; rfl
  · unfold joinA; rw [if_neg (by simp [h])]
attribute [local irreducible] callFunc Go.method J JL JO JR JR1 JRl Ct JG JM JM1 JQ JQ0 JS CtD LeavesQ RdB Er Gl by8 ibits joinA joinL splE s1A s2A s3A madeCells
set_option maxRecDepth 8000 in
set_option maxHeartbeats 4000000 in
theorem sectKnown_c (te : TypeId) (fz : Nat × Nat) : Ct Tryd.prog 7 #[] [Gl te fz] (RetV (.bool true) []) := by
  obtain ⟨b, hb, hbl⟩ := big_
  obtain ⟨q1, q2, q3, q4, q5, q6⟩ := big_at b hbl
  have j1 := join_c b b b (by omega) (by omega) (by omega)
  have j2 := join_c [] (b ++ [120]) [] (by simp) (by simp [hbl]) (by simp)
  rw [q1] at j1
  rw [q6] at j2
  have sp := split_ok (joinL b b b) (by omega) (by rw [q3])
  rw [q4, q5] at sp
  generalize joinL b b b = A at *
  dsimp only at j1 j2
  have f1 := fails_c _ (by decide) _ _ te fz e1 (by decide)
  have f2 := fails_c _ (by decide) _ _ te fz e2 (by decide)
  have f3 := fails_c _ (by decide) _ _ te fz e3 (by decide)
  have f4 := fails_c _ (by decide) _ _ te fz e4 (by decide)
  have f5 := fails_c _ (by decide) _ _ te fz e5 (by decide)
  have f6 := fails_c _ (by decide) _ _ te fz e6 (by decide)
  have f7 := fails_c _ (by decide) _ _ te fz e7 (by decide)
  have f8 := fails_c _ (by decide) _ _ te fz e8 (by decide)
  have f9 := fails_c _ (by decide) _ _ te fz e9 (by decide)
  have w := works3_c te fz
  refine fn_ret (vs := []) Tryd.func7 rfl Tryd.ntmps7 (by simp) ?_
  repeat (first | (first | refine J_region ?_ | refine JL_nil ?_ | refine J_seq ?_) | (first | ((first | refine JL_step rfl ?_ | refine JL_take rfl rfl ?_); first | refine JO_makeM (n := 65536) (by8 b) rfl rfl hb (by decide) (by decide) rfl (fun r => ?_) | refine JO_q (by simp) (JQ_strB (bs := b) rfl hbl.symm rfl) rfl ?_ | refine JO_buildA (cs := [str b, str b, str b]) rfl rfl rfl ?_ | refine JO_q (by simp) (JQ_addS (a := b) (b := [120]) rfl rfl (by rw [hbl]; decide)) rfl ?_ | refine JO_buildA (cs := [str [], str (b ++ [120]), str []]) rfl rfl rfl ?_ | refine JO_callE rfl sp rfl (fun x _ => ?_) | refine JO_move rfl rfl ?_ | refine JO_assign rfl rfl ?_ | refine JO_neI rfl rfl rfl ?_ | refine JO_extract rfl rfl rfl ?_ | refine JO_allocA rfl (fun r => ?_) | refine JO_storeW rfl rfl (by rfl) (by rfl) (by first | decide | simp [Value.oneCell']) rfl ?_ | refine JO_callVP rfl (j1) rfl ?_ | refine JO_callVP rfl (j2) rfl ?_)))
  obtain ⟨p1, p2, p3⟩ := x
  dsimp only at *
  revert r
  intro n3
  have rr := rest_c p3 b 131089 (by omega)
  have hne : ((A.length : Nat) : Int) = 196625 := by omega
  repeat (first | (first | refine J_region ?_ | refine JL_nil ?_ | refine J_seq ?_ | refine J_skip ?_ | refine J_condF rfl ?_ | refine J_ret ?_) | (first | ((first | refine JL_step rfl ?_ | refine JL_take rfl rfl ?_); first | refine JO_q (by simp) (JQ_addS (a := hdB) rfl rfl (by simp)) rfl ?_ | refine JO_q (by simp) (JQ_neIf0 rfl) rfl ?_ | refine JO_q (by simp) (JQ_indexPK 2 (j := 2) rfl rfl (by omega) rfl) rfl ?_ | refine JO_q (by simp) (JQ_eqP rfl) rfl ?_ | refine JO_q (by simp) (JQ_lenB rfl) rfl ?_ | refine JO_q (by simp) (JQ_neF rfl rfl (by omega)) rfl ?_ | refine JO_q (by simp) (JQ_eqI00 rfl rfl) rfl ?_ | refine JO_q (by simp) (JQ_neF rfl rfl (by omega)) rfl ?_ | refine JO_move rfl rfl ?_ | refine JO_assign rfl rfl ?_ | refine JO_load rfl rfl ?_ | refine JO_pickT rfl rfl rfl ?_ | refine JO_pickF rfl rfl rfl ?_ | refine JO_extract rfl rfl rfl ?_ | refine JO_callV' rfl (rr) rfl ?_ | refine JO_callVP rfl (w) rfl ?_ | refine JO_callVP rfl (f1) rfl ?_ | refine JO_callVP rfl (f2) rfl ?_ | refine JO_callVP rfl (f3) rfl ?_ | refine JO_callVP rfl (f4) rfl ?_ | refine JO_callVP rfl (f5) rfl ?_ | refine JO_callVP rfl (f6) rfl ?_ | refine JO_callVP rfl (f7) rfl ?_ | refine JO_callVP rfl (f8) rfl ?_ | refine JO_callVP rfl (f9) rfl ?_)))
  exact ret_oneV rfl rfl .nil
end Go.Proofs.YtfelcdbhlahehaaDoor
