/- Layer 10: flow -/
import Derived.Test.YtemanjljjlpbgaaB6
import Derived.Test.YtemanjljjlpbgaaSp10
namespace Go.Proofs.Ytemanjljjlpbgaa
open Go Go.Sp
attribute [local irreducible] J JL JO Ct

theorem stL_mem (S : Int → Bool) : ∀ (n : Nat) (t : Int), t ∈ stL S n ↔ ∃ i : Nat, i < n ∧ t = (i : Int) ∧ S (i : Int) = true
  | 0, t => by simp [stL]
  | n + 1, t => by
    simp only [stL, List.mem_append, stL_mem S n t]
    constructor
    · rintro (⟨i, hi, rfl, hS⟩ | h)
      · exact ⟨i, by omega, rfl, hS⟩
      · split at h
        · rename_i hS
          simp at h
          exact ⟨n, by omega, h, hS⟩
        · cases h
    · rintro ⟨i, hi, rfl, hS⟩
      by_cases hin : i < n
      · exact .inl ⟨i, hin, rfl, hS⟩
      · obtain rfl : i = n := by omega
        right; simp [hS]
theorem stL_rises (S : Int → Bool) : ∀ n, Rises (stL S n)
  | 0 => fun i j a b _ h => by simp [stL] at h
  | n + 1 => fun i j a b hij ha hb => by
    have ih := stL_rises S n
    have hjl := (List.getElem?_eq_some_iff.1 hb).1
    simp only [stL] at ha hb hjl
    by_cases hj : j < (stL S n).length
    · rw [List.getElem?_append_left hj] at hb
      rw [List.getElem?_append_left (by omega)] at ha
      exact ih i j a b hij ha hb
    · split at hb
      · rename_i hS
        rw [if_pos hS] at hjl ha
        have hj2 : j = (stL S n).length := by simp at hjl; omega
        subst hj2
        rw [List.getElem?_append_right (Nat.le_refl _)] at hb
        simp at hb
        rw [List.getElem?_append_left hij] at ha
        obtain ⟨k, hk, rfl, _⟩ := (stL_mem S n a).1 (List.mem_of_getElem? ha)
        omega
      · simp at hb
        have := (List.getElem?_eq_some_iff.1 hb).1
        omega
theorem below_of {l : List Int} {t : Int} {n : Nat} (hn : n ≤ l.length) (h1 : ∀ (j : Nat) (s : Int), j < n → l[j]? = some s → s < t) (h2 : ∀ (j : Nat) (s : Int), n ≤ j → l[j]? = some s → t ≤ s) : n = below l t := by
  unfold below
  conv => rhs; rw [← List.take_append_drop n l, List.filter_append]
  have e1 : (l.take n).filter (fun s => decide (s < t)) = l.take n := by
    rw [List.filter_eq_self]
    intro s hs
    obtain ⟨j, hj, rfl⟩ := List.getElem_of_mem hs
    rw [List.length_take] at hj
    simp only [List.getElem_take, decide_eq_true_eq]
    exact h1 j _ (by omega) (List.getElem?_eq_getElem (by omega))
  have e2 : (l.drop n).filter (fun s => decide (s < t)) = [] := by
    rw [List.filter_eq_nil_iff]
    intro s hs
    obtain ⟨j, hj, rfl⟩ := List.getElem_of_mem hs
    rw [List.length_drop] at hj
    simp only [List.getElem_drop, decide_eq_true_eq, Int.not_lt]
    exact h2 (n + j) _ (by omega) (List.getElem?_eq_getElem (by omega))
  rw [e1, e2]; simp; omega

/-- Where a block ends. -/
def endOf (xs : List Insn) (b : Nat) : Int := match (startsL xs)[b + 1]? with | some e => e | none => (xs.length : Int)
def lastOf (xs : List Insn) (b : Nat) : Nat := (endOf xs b - 1).toNat
def nextOf (xs : List Insn) (b : Nat) : List Int := (goes xs (lastOf xs b)).map fun t => ((below (startsL xs) t : Nat) : Int)
def nextsL (xs : List Insn) : List (List Int) := (List.range (startsL xs).length).map (nextOf xs)
theorem last_ok {xs : List Insn} {b : Nat} (hb : b < (startsL xs).length) : ∃ x, xs[lastOf xs b]? = some x ∧ endOf xs b - 1 = (lastOf xs b : Int) := by
  obtain ⟨s, hs⟩ : ∃ s, (startsL xs)[b]? = some s := ⟨_, List.getElem?_eq_getElem hb⟩
  obtain ⟨i, hi, rfl, _⟩ := (stL_mem _ _ s).1 (List.mem_of_getElem? hs)
  have hlt : lastOf xs b < xs.length ∧ endOf xs b - 1 = (lastOf xs b : Int) := by
    unfold lastOf endOf
    cases he : (startsL xs)[b + 1]? with
    | none => simp only; omega
    | some e =>
      obtain ⟨j, hj, rfl, _⟩ := (stL_mem _ _ e).1 (List.mem_of_getElem? he)
      have := stL_rises _ _ b (b + 1) _ _ (by omega) hs he
      simp only; omega
  exact ⟨_, List.getElem?_eq_getElem hlt.1, hlt.2⟩
theorem goes_le (xs : List Insn) (i : Nat) (x : Insn) (hx : xs[i]? = some x) : (goes xs i).length ≤ x.l.length + 1 := by
  have h1 := tgts_le x
  simp only [goes, hx, List.length_append]
  split <;> simp <;> omega
attribute [local irreducible] isB closesB talksB outB tgts goes idxF List.any mkS mk startsL
set_option maxHeartbeats 4000000 in
theorem flow_c (p : Option Addr) (cap : Nat) (xs : List Insn) (hs : Small xs) (hn : xs.length * 24 ≤ 140737488355328) :
    Ct Try.prog 24 #[.slice p xs.length cap] [VCode (.slice p xs.length cap) xs]
      (RetE (fun _ => True) (fun y : (Option Addr × Nat) × (Option Addr × Nat) => .agg #[.slice y.1.1 (startsL xs).length y.1.2, .slice y.2.1 (nextsL xs).length y.2.2])
        fun y => [Vw 1 (.slice y.1.1 (startsL xs).length y.1.2) (startsL xs).length (ints (startsL xs)), VLists (.slice y.2.1 (nextsL xs).length y.2.2) (nextsL xs)]) := by
  have hst : (startsL xs).length ≤ xs.length := by unfold startsL; exact stL_le _ _
  refine fn_retMs (vs := [_]) Try.func24 rfl Try.ntmps24 (by simp) ?_
  refine J_seq (J_region (JL_step rfl (JO_allocA rfl fun br => ?_)))
  repeat (first | (first | refine J_region ?_ | refine JL_nil ?_ | refine J_seq ?_ | refine J_block ?_ | refine J_skip ?_ | refine J_label ?_ | refine J_condT rfl ?_ | refine J_condF rfl ?_ | refine J_exit ?_ | refine J_ret ?_) | (first | ((first | refine JL_step rfl ?_ | refine JL_take rfl rfl ?_); first | refine JO_move rfl rfl ?_ | refine JO_assign rfl rfl ?_ | refine JO_len rfl rfl ?_ | refine JO_lenS rfl rfl ?_ | refine JO_field0 rfl rfl ?_ | refine JO_field rfl rfl ?_ | refine JO_load rfl rfl ?_ | refine JO_loadW rfl (by rfl) rfl ?_ | refine JO_pickT rfl rfl rfl ?_ | refine JO_pickF rfl rfl rfl ?_ | refine JO_lss rfl rfl rfl ?_ | refine JO_leq rfl rfl rfl ?_ | refine JO_gtr rfl rfl rfl ?_ | refine JO_geq rfl rfl rfl ?_ | refine JO_eqI rfl rfl rfl ?_ | refine JO_neI rfl rfl rfl ?_ | refine JO_and rfl rfl rfl ?_ | refine JO_or rfl rfl rfl ?_ | refine JO_xor rfl rfl rfl ?_ | refine JO_andNot rfl rfl rfl ?_ | refine JO_conv rfl rfl ?_ | refine JO_eqNilS rfl rfl ?_ | refine JO_buildSlice rfl rfl rfl (by decide) rfl (fun r => ?_) | refine JO_notP rfl rfl ?_ | refine JO_not rfl rfl ?_ | refine JO_addN rfl rfl (by omega) rfl ?_ | refine JO_add rfl rfl (by omega) rfl ?_ | refine JO_sub rfl rfl (by omega) rfl ?_ | refine JO_extract rfl rfl rfl ?_ | refine JO_boxA rfl rfl (fun r => ?_) | refine JO_box1 rfl rfl rfl (fun r => ?_) | refine JO_allocA rfl (fun r => ?_) | refine JO_alloc1 (by rfl) rfl (fun r => ?_) | refine JO_makeFunc rfl rfl rfl ?_ | refine JO_makeIface (by simp) rfl rfl ?_ | refine JO_store rfl rfl (by first | rfl | assumption) rfl ?_ | refine JO_storeW rfl rfl (by rfl) (by rfl) (by first | decide | simp [Value.oneCell']) rfl ?_ | refine JO_index1 rfl rfl (by omega) rfl ?_ | refine JO_index rfl rfl (by omega) rfl ?_) | refine JL_pass rfl rfl rfl ?_ | refine JL_passN rfl rfl rfl ?_))
  refine JL_step rfl (JO_callEP rfl (starts_c p cap xs hs (by omega)) rfl fun v _ => ?_)
  refine JL_view fun ps cs hv => ?_
  subst hv
  refine JL_step rfl (JO_build (cs := [.slice ps (startsL xs).length cs, .slice none 0 0]) rfl rfl rfl ?_)
  refine JL_step rfl (JO_allocA rfl fun bf => ?_)
  repeat (first | (first | refine J_region ?_ | refine JL_nil ?_ | refine J_seq ?_ | refine J_block ?_ | refine J_skip ?_ | refine J_label ?_ | refine J_condT rfl ?_ | refine J_condF rfl ?_ | refine J_exit ?_ | refine J_ret ?_) | (first | ((first | refine JL_step rfl ?_ | refine JL_take rfl rfl ?_); first | refine JO_move rfl rfl ?_ | refine JO_assign rfl rfl ?_ | refine JO_len rfl rfl ?_ | refine JO_lenS rfl rfl ?_ | refine JO_field0 rfl rfl ?_ | refine JO_field rfl rfl ?_ | refine JO_load rfl rfl ?_ | refine JO_loadW rfl (by rfl) rfl ?_ | refine JO_pickT rfl rfl rfl ?_ | refine JO_pickF rfl rfl rfl ?_ | refine JO_lss rfl rfl rfl ?_ | refine JO_leq rfl rfl rfl ?_ | refine JO_gtr rfl rfl rfl ?_ | refine JO_geq rfl rfl rfl ?_ | refine JO_eqI rfl rfl rfl ?_ | refine JO_neI rfl rfl rfl ?_ | refine JO_and rfl rfl rfl ?_ | refine JO_or rfl rfl rfl ?_ | refine JO_xor rfl rfl rfl ?_ | refine JO_andNot rfl rfl rfl ?_ | refine JO_conv rfl rfl ?_ | refine JO_eqNilS rfl rfl ?_ | refine JO_buildSlice rfl rfl rfl (by decide) rfl (fun r => ?_) | refine JO_notP rfl rfl ?_ | refine JO_not rfl rfl ?_ | refine JO_addN rfl rfl (by omega) rfl ?_ | refine JO_add rfl rfl (by omega) rfl ?_ | refine JO_sub rfl rfl (by omega) rfl ?_ | refine JO_extract rfl rfl rfl ?_ | refine JO_boxA rfl rfl (fun r => ?_) | refine JO_box1 rfl rfl rfl (fun r => ?_) | refine JO_allocA rfl (fun r => ?_) | refine JO_alloc1 (by rfl) rfl (fun r => ?_) | refine JO_makeFunc rfl rfl rfl ?_ | refine JO_makeIface (by simp) rfl rfl ?_ | refine JO_store rfl rfl (by first | rfl | assumption) rfl ?_ | refine JO_storeW rfl rfl (by rfl) (by rfl) (by first | decide | simp [Value.oneCell']) rfl ?_ | refine JO_index1 rfl rfl (by omega) rfl ?_ | refine JO_index rfl rfl (by omega) rfl ?_) | refine JL_pass rfl rfl rfl ?_ | refine JL_passN rfl rfl rfl ?_))
  refine J_loop (β := { y : Nat × Value × List Nat × List Value // y.1 ≤ (startsL xs).length ∧ y.2.1.oneCell' = true })
    (fun y => [(0, .slice p xs.length cap), (2, .pointer (some ⟨br, 0, none⟩)), (3, .pointer (some ⟨bf, 0, none⟩)), (15, .int .i64 ((startsL xs).length : Int)), (16, .int .i64 (y.1.1 : Int))])
    (fun y => y.1.2.2.1.map collected)
    (fun y => [Marks y.1.2.2.1, pt bf (.cells #[.slice ps (startsL xs).length cs, y.1.2.1] 27 (0, 0)), OwnS 24 1 y.1.2.1 y.1.1 y.1.2.2.2, Lists y.1.2.2.2 ((List.range y.1.1).map (nextOf xs)), Vw 1 (.slice ps (startsL xs).length cs) (startsL xs).length (ints (startsL xs)), pt br (.cells #[.slice none 0 0, .slice none 0 0] 27 (0, 0)), VCode (.slice p xs.length cap) xs])
    (fun y => (startsL xs).length - y.1.1) ⟨(0, .slice none 0 0, [], []), Nat.zero_le _, rfl⟩ ?_ rfl ?_ ?_
  · (repeat (first | exact sub_nil _ | refine sub_cons rfl ?_))
  · refine Ent.marks0.trans ((Ent.cons (A := OwnS 24 1 (.slice none 0 0) 0 []) fun _ _ => Sat.own_nil).trans ((Ent.cons (A := Lists [] []) fun _ _ hs => hs.add (lists_nil _)).trans ?_))
    simp only [List.range_zero, List.map_nil]
    exact Ent.sel
  · rintro ⟨⟨b, v, rs, lvs⟩, hb, hv⟩
    dsimp only at hb hv
    dsimp only
    repeat (first | (first | refine J_region ?_ | refine JL_nil ?_ | refine J_seq ?_ | refine J_block ?_ | refine J_skip ?_ | refine J_label ?_ | refine J_condT rfl ?_ | refine J_condF rfl ?_ | refine J_exit ?_ | refine J_ret ?_) | (first | ((first | refine JL_step rfl ?_ | refine JL_take rfl rfl ?_); first | refine JO_move rfl rfl ?_ | refine JO_assign rfl rfl ?_ | refine JO_len rfl rfl ?_ | refine JO_lenS rfl rfl ?_ | refine JO_field0 rfl rfl ?_ | refine JO_field rfl rfl ?_ | refine JO_load rfl rfl ?_ | refine JO_loadW rfl (by rfl) rfl ?_ | refine JO_pickT rfl rfl rfl ?_ | refine JO_pickF rfl rfl rfl ?_ | refine JO_lss rfl rfl rfl ?_ | refine JO_leq rfl rfl rfl ?_ | refine JO_gtr rfl rfl rfl ?_ | refine JO_geq rfl rfl rfl ?_ | refine JO_eqI rfl rfl rfl ?_ | refine JO_neI rfl rfl rfl ?_ | refine JO_and rfl rfl rfl ?_ | refine JO_or rfl rfl rfl ?_ | refine JO_xor rfl rfl rfl ?_ | refine JO_andNot rfl rfl rfl ?_ | refine JO_conv rfl rfl ?_ | refine JO_eqNilS rfl rfl ?_ | refine JO_buildSlice rfl rfl rfl (by decide) rfl (fun r => ?_) | refine JO_notP rfl rfl ?_ | refine JO_not rfl rfl ?_ | refine JO_addN rfl rfl (by omega) rfl ?_ | refine JO_add rfl rfl (by omega) rfl ?_ | refine JO_sub rfl rfl (by omega) rfl ?_ | refine JO_extract rfl rfl rfl ?_ | refine JO_boxA rfl rfl (fun r => ?_) | refine JO_box1 rfl rfl rfl (fun r => ?_) | refine JO_allocA rfl (fun r => ?_) | refine JO_alloc1 (by rfl) rfl (fun r => ?_) | refine JO_makeFunc rfl rfl rfl ?_ | refine JO_makeIface (by simp) rfl rfl ?_ | refine JO_store rfl rfl (by first | rfl | assumption) rfl ?_ | refine JO_storeW rfl rfl (by rfl) (by rfl) (by first | decide | simp [Value.oneCell']) rfl ?_ | refine JO_index1 rfl rfl (by omega) rfl ?_ | refine JO_index rfl rfl (by omega) rfl ?_) | refine JL_pass rfl rfl rfl ?_ | refine JL_passN rfl rfl rfl ?_))
    refine J_condP rfl (fun hlt => ?_) (fun hge => ?_)
    · have hb2 : b < (startsL xs).length := by omega
      obtain ⟨x, hx, hlast⟩ := last_ok hb2
      have hsx := hs x (List.mem_of_getElem? hx)
      have hgl := goes_le xs _ x hx
      repeat (first | (first | refine J_region ?_ | refine JL_nil ?_ | refine J_seq ?_ | refine J_block ?_ | refine J_skip ?_ | refine J_label ?_ | refine J_condT rfl ?_ | refine J_condF rfl ?_ | refine J_exit ?_ | refine J_ret ?_) | (first | ((first | refine JL_step rfl ?_ | refine JL_take rfl rfl ?_); first | refine JO_move rfl rfl ?_ | refine JO_assign rfl rfl ?_ | refine JO_len rfl rfl ?_ | refine JO_lenS rfl rfl ?_ | refine JO_field0 rfl rfl ?_ | refine JO_field rfl rfl ?_ | refine JO_load rfl rfl ?_ | refine JO_loadW rfl (by rfl) rfl ?_ | refine JO_pickT rfl rfl rfl ?_ | refine JO_pickF rfl rfl rfl ?_ | refine JO_lss rfl rfl rfl ?_ | refine JO_leq rfl rfl rfl ?_ | refine JO_gtr rfl rfl rfl ?_ | refine JO_geq rfl rfl rfl ?_ | refine JO_eqI rfl rfl rfl ?_ | refine JO_neI rfl rfl rfl ?_ | refine JO_and rfl rfl rfl ?_ | refine JO_or rfl rfl rfl ?_ | refine JO_xor rfl rfl rfl ?_ | refine JO_andNot rfl rfl rfl ?_ | refine JO_conv rfl rfl ?_ | refine JO_eqNilS rfl rfl ?_ | refine JO_buildSlice rfl rfl rfl (by decide) rfl (fun r => ?_) | refine JO_notP rfl rfl ?_ | refine JO_not rfl rfl ?_ | refine JO_addN rfl rfl (by omega) rfl ?_ | refine JO_add rfl rfl (by omega) rfl ?_ | refine JO_sub rfl rfl (by omega) rfl ?_ | refine JO_extract rfl rfl rfl ?_ | refine JO_boxA rfl rfl (fun r => ?_) | refine JO_box1 rfl rfl rfl (fun r => ?_) | refine JO_allocA rfl (fun r => ?_) | refine JO_alloc1 (by rfl) rfl (fun r => ?_) | refine JO_makeFunc rfl rfl rfl ?_ | refine JO_makeIface (by simp) rfl rfl ?_ | refine JO_store rfl rfl (by first | rfl | assumption) rfl ?_ | refine JO_storeW rfl rfl (by rfl) (by rfl) (by first | decide | simp [Value.oneCell']) rfl ?_ | refine JO_index1 rfl rfl (by omega) rfl ?_ | refine JO_index rfl rfl (by omega) rfl ?_) | refine JL_pass rfl rfl rfl ?_ | refine JL_passN rfl rfl rfl ?_))
      -- where the block ends
      refine J_cut [(0, .slice p xs.length cap), (2, .pointer (some ⟨br, 0, none⟩)), (3, .pointer (some ⟨bf, 0, none⟩)), (4, .int .i64 (b : Int)), (5, .int .i64 (endOf xs b)), (15, .int .i64 ((startsL xs).length : Int)), (16, .int .i64 (b : Int))]
        [Marks rs, pt bf (.cells #[.slice ps (startsL xs).length cs, v] 27 (0, 0)), OwnS 24 1 v b lvs, Lists lvs ((List.range b).map (nextOf xs)), Vw 1 (.slice ps (startsL xs).length cs) (startsL xs).length (ints (startsL xs)), pt br (.cells #[.slice none 0 0, .slice none 0 0] 27 (0, 0)), VCode (.slice p xs.length cap) xs] ?_ ?_
      · refine J_condP rfl (fun h => ?_) (fun h => ?_)
        · obtain ⟨e, he⟩ : ∃ e, (startsL xs)[b + 1]? = some e := ⟨_, List.getElem?_eq_getElem (by omega)⟩
          have hend : endOf xs b = e := by simp [endOf, he]
          have hb3 : b + 1 < (startsL xs).length := by omega
          repeat (first | (first | refine J_region ?_ | refine JL_nil ?_ | refine J_seq ?_ | refine J_block ?_ | refine J_skip ?_ | refine J_label ?_ | refine J_condT rfl ?_ | refine J_condF rfl ?_ | refine J_exit ?_ | refine J_ret ?_) | (first | ((first | refine JL_step rfl ?_ | refine JL_take rfl rfl ?_); first | refine JO_move rfl rfl ?_ | refine JO_assign rfl rfl ?_ | refine JO_len rfl rfl ?_ | refine JO_lenS rfl rfl ?_ | refine JO_field0 rfl rfl ?_ | refine JO_field rfl rfl ?_ | refine JO_load rfl rfl ?_ | refine JO_loadW rfl (by rfl) rfl ?_ | refine JO_pickT rfl rfl rfl ?_ | refine JO_pickF rfl rfl rfl ?_ | refine JO_lss rfl rfl rfl ?_ | refine JO_leq rfl rfl rfl ?_ | refine JO_gtr rfl rfl rfl ?_ | refine JO_geq rfl rfl rfl ?_ | refine JO_eqI rfl rfl rfl ?_ | refine JO_neI rfl rfl rfl ?_ | refine JO_and rfl rfl rfl ?_ | refine JO_or rfl rfl rfl ?_ | refine JO_xor rfl rfl rfl ?_ | refine JO_andNot rfl rfl rfl ?_ | refine JO_conv rfl rfl ?_ | refine JO_eqNilS rfl rfl ?_ | refine JO_buildSlice rfl rfl rfl (by decide) rfl (fun r => ?_) | refine JO_notP rfl rfl ?_ | refine JO_not rfl rfl ?_ | refine JO_addN rfl rfl (by omega) rfl ?_ | refine JO_add rfl rfl (by omega) rfl ?_ | refine JO_sub rfl rfl (by omega) rfl ?_ | refine JO_extract rfl rfl rfl ?_ | refine JO_boxA rfl rfl (fun r => ?_) | refine JO_box1 rfl rfl rfl (fun r => ?_) | refine JO_allocA rfl (fun r => ?_) | refine JO_alloc1 (by rfl) rfl (fun r => ?_) | refine JO_makeFunc rfl rfl rfl ?_ | refine JO_makeIface (by simp) rfl rfl ?_ | refine JO_store rfl rfl (by first | rfl | assumption) rfl ?_ | refine JO_storeW rfl rfl (by rfl) (by rfl) (by first | decide | simp [Value.oneCell']) rfl ?_ | refine JO_index1 rfl rfl (by omega) rfl ?_ | refine JO_index rfl rfl (by omega) rfl ?_) | refine JL_pass rfl rfl rfl ?_ | refine JL_passN rfl rfl rfl ?_))
          refine JL_step rfl (JO_indexV1 rfl rfl hb3 _ (ints_get he) rfl fun b o hl => ?_)
          refine JL_step rfl (JO_loadL rfl hl rfl ?_)
          repeat (first | (first | refine J_region ?_ | refine JL_nil ?_ | refine J_seq ?_ | refine J_block ?_ | refine J_skip ?_ | refine J_label ?_ | refine J_condT rfl ?_ | refine J_condF rfl ?_ | refine J_exit ?_ | refine J_ret ?_) | (first | ((first | refine JL_step rfl ?_ | refine JL_take rfl rfl ?_); first | refine JO_move rfl rfl ?_ | refine JO_assign rfl rfl ?_ | refine JO_len rfl rfl ?_ | refine JO_lenS rfl rfl ?_ | refine JO_field0 rfl rfl ?_ | refine JO_field rfl rfl ?_ | refine JO_load rfl rfl ?_ | refine JO_loadW rfl (by rfl) rfl ?_ | refine JO_pickT rfl rfl rfl ?_ | refine JO_pickF rfl rfl rfl ?_ | refine JO_lss rfl rfl rfl ?_ | refine JO_leq rfl rfl rfl ?_ | refine JO_gtr rfl rfl rfl ?_ | refine JO_geq rfl rfl rfl ?_ | refine JO_eqI rfl rfl rfl ?_ | refine JO_neI rfl rfl rfl ?_ | refine JO_and rfl rfl rfl ?_ | refine JO_or rfl rfl rfl ?_ | refine JO_xor rfl rfl rfl ?_ | refine JO_andNot rfl rfl rfl ?_ | refine JO_conv rfl rfl ?_ | refine JO_eqNilS rfl rfl ?_ | refine JO_buildSlice rfl rfl rfl (by decide) rfl (fun r => ?_) | refine JO_notP rfl rfl ?_ | refine JO_not rfl rfl ?_ | refine JO_addN rfl rfl (by omega) rfl ?_ | refine JO_add rfl rfl (by omega) rfl ?_ | refine JO_sub rfl rfl (by omega) rfl ?_ | refine JO_extract rfl rfl rfl ?_ | refine JO_boxA rfl rfl (fun r => ?_) | refine JO_box1 rfl rfl rfl (fun r => ?_) | refine JO_allocA rfl (fun r => ?_) | refine JO_alloc1 (by rfl) rfl (fun r => ?_) | refine JO_makeFunc rfl rfl rfl ?_ | refine JO_makeIface (by simp) rfl rfl ?_ | refine JO_store rfl rfl (by first | rfl | assumption) rfl ?_ | refine JO_storeW rfl rfl (by rfl) (by rfl) (by first | decide | simp [Value.oneCell']) rfl ?_ | refine JO_index1 rfl rfl (by omega) rfl ?_ | refine JO_index rfl rfl (by omega) rfl ?_) | refine JL_pass rfl rfl rfl ?_ | refine JL_passN rfl rfl rfl ?_))
          refine ⟨?_, rfl, Ent.sel⟩
          rw [hend]
          (repeat (first | exact sub_nil _ | refine sub_cons rfl ?_))
        · have hend : endOf xs b = (xs.length : Int) := by
            have : (startsL xs)[b + 1]? = none := List.getElem?_eq_none (by omega)
            simp [endOf, this]
          repeat (first | (first | refine J_region ?_ | refine JL_nil ?_ | refine J_seq ?_ | refine J_block ?_ | refine J_skip ?_ | refine J_label ?_ | refine J_condT rfl ?_ | refine J_condF rfl ?_ | refine J_exit ?_ | refine J_ret ?_) | (first | ((first | refine JL_step rfl ?_ | refine JL_take rfl rfl ?_); first | refine JO_move rfl rfl ?_ | refine JO_assign rfl rfl ?_ | refine JO_len rfl rfl ?_ | refine JO_lenS rfl rfl ?_ | refine JO_field0 rfl rfl ?_ | refine JO_field rfl rfl ?_ | refine JO_load rfl rfl ?_ | refine JO_loadW rfl (by rfl) rfl ?_ | refine JO_pickT rfl rfl rfl ?_ | refine JO_pickF rfl rfl rfl ?_ | refine JO_lss rfl rfl rfl ?_ | refine JO_leq rfl rfl rfl ?_ | refine JO_gtr rfl rfl rfl ?_ | refine JO_geq rfl rfl rfl ?_ | refine JO_eqI rfl rfl rfl ?_ | refine JO_neI rfl rfl rfl ?_ | refine JO_and rfl rfl rfl ?_ | refine JO_or rfl rfl rfl ?_ | refine JO_xor rfl rfl rfl ?_ | refine JO_andNot rfl rfl rfl ?_ | refine JO_conv rfl rfl ?_ | refine JO_eqNilS rfl rfl ?_ | refine JO_buildSlice rfl rfl rfl (by decide) rfl (fun r => ?_) | refine JO_notP rfl rfl ?_ | refine JO_not rfl rfl ?_ | refine JO_addN rfl rfl (by omega) rfl ?_ | refine JO_add rfl rfl (by omega) rfl ?_ | refine JO_sub rfl rfl (by omega) rfl ?_ | refine JO_extract rfl rfl rfl ?_ | refine JO_boxA rfl rfl (fun r => ?_) | refine JO_box1 rfl rfl rfl (fun r => ?_) | refine JO_allocA rfl (fun r => ?_) | refine JO_alloc1 (by rfl) rfl (fun r => ?_) | refine JO_makeFunc rfl rfl rfl ?_ | refine JO_makeIface (by simp) rfl rfl ?_ | refine JO_store rfl rfl (by first | rfl | assumption) rfl ?_ | refine JO_storeW rfl rfl (by rfl) (by rfl) (by first | decide | simp [Value.oneCell']) rfl ?_ | refine JO_index1 rfl rfl (by omega) rfl ?_ | refine JO_index rfl rfl (by omega) rfl ?_) | refine JL_pass rfl rfl rfl ?_ | refine JL_passN rfl rfl rfl ?_))
          refine ⟨?_, rfl, Ent.sel⟩
          rw [hend]
          (repeat (first | exact sub_nil _ | refine sub_cons rfl ?_))
      · have hlx := (List.getElem?_eq_some_iff.1 hx).1
        repeat (first | (first | refine J_region ?_ | refine JL_nil ?_ | refine J_seq ?_ | refine J_block ?_ | refine J_skip ?_ | refine J_label ?_ | refine J_condT rfl ?_ | refine J_condF rfl ?_ | refine J_exit ?_ | refine J_ret ?_) | (first | ((first | refine JL_step rfl ?_ | refine JL_take rfl rfl ?_); first | refine JO_move rfl rfl ?_ | refine JO_assign rfl rfl ?_ | refine JO_len rfl rfl ?_ | refine JO_lenS rfl rfl ?_ | refine JO_field0 rfl rfl ?_ | refine JO_field rfl rfl ?_ | refine JO_load rfl rfl ?_ | refine JO_loadW rfl (by rfl) rfl ?_ | refine JO_pickT rfl rfl rfl ?_ | refine JO_pickF rfl rfl rfl ?_ | refine JO_lss rfl rfl rfl ?_ | refine JO_leq rfl rfl rfl ?_ | refine JO_gtr rfl rfl rfl ?_ | refine JO_geq rfl rfl rfl ?_ | refine JO_eqI rfl rfl rfl ?_ | refine JO_neI rfl rfl rfl ?_ | refine JO_and rfl rfl rfl ?_ | refine JO_or rfl rfl rfl ?_ | refine JO_xor rfl rfl rfl ?_ | refine JO_andNot rfl rfl rfl ?_ | refine JO_conv rfl rfl ?_ | refine JO_eqNilS rfl rfl ?_ | refine JO_buildSlice rfl rfl rfl (by decide) rfl (fun r => ?_) | refine JO_notP rfl rfl ?_ | refine JO_not rfl rfl ?_ | refine JO_addN rfl rfl (by omega) rfl ?_ | refine JO_add rfl rfl (by omega) rfl ?_ | refine JO_sub rfl rfl (by omega) rfl ?_ | refine JO_extract rfl rfl rfl ?_ | refine JO_boxA rfl rfl (fun r => ?_) | refine JO_box1 rfl rfl rfl (fun r => ?_) | refine JO_allocA rfl (fun r => ?_) | refine JO_alloc1 (by rfl) rfl (fun r => ?_) | refine JO_makeFunc rfl rfl rfl ?_ | refine JO_makeIface (by simp) rfl rfl ?_ | refine JO_store rfl rfl (by first | rfl | assumption) rfl ?_ | refine JO_storeW rfl rfl (by rfl) (by rfl) (by first | decide | simp [Value.oneCell']) rfl ?_ | refine JO_index1 rfl rfl (by omega) rfl ?_ | refine JO_index rfl rfl (by omega) rfl ?_) | refine JL_pass rfl rfl rfl ?_ | refine JL_passN rfl rfl rfl ?_))
        rw [hlast]
        refine JL_step rfl (JO_callE rfl (ways_c _ rfl _) rfl fun bb _ => ?_)
        repeat (first | (first | refine J_region ?_ | refine JL_nil ?_ | refine J_seq ?_ | refine J_block ?_ | refine J_skip ?_ | refine J_label ?_ | refine J_condT rfl ?_ | refine J_condF rfl ?_ | refine J_exit ?_ | refine J_ret ?_) | (first | ((first | refine JL_step rfl ?_ | refine JL_take rfl rfl ?_); first | refine JO_move rfl rfl ?_ | refine JO_assign rfl rfl ?_ | refine JO_len rfl rfl ?_ | refine JO_lenS rfl rfl ?_ | refine JO_field0 rfl rfl ?_ | refine JO_field rfl rfl ?_ | refine JO_load rfl rfl ?_ | refine JO_loadW rfl (by rfl) rfl ?_ | refine JO_pickT rfl rfl rfl ?_ | refine JO_pickF rfl rfl rfl ?_ | refine JO_lss rfl rfl rfl ?_ | refine JO_leq rfl rfl rfl ?_ | refine JO_gtr rfl rfl rfl ?_ | refine JO_geq rfl rfl rfl ?_ | refine JO_eqI rfl rfl rfl ?_ | refine JO_neI rfl rfl rfl ?_ | refine JO_and rfl rfl rfl ?_ | refine JO_or rfl rfl rfl ?_ | refine JO_xor rfl rfl rfl ?_ | refine JO_andNot rfl rfl rfl ?_ | refine JO_conv rfl rfl ?_ | refine JO_eqNilS rfl rfl ?_ | refine JO_buildSlice rfl rfl rfl (by decide) rfl (fun r => ?_) | refine JO_notP rfl rfl ?_ | refine JO_not rfl rfl ?_ | refine JO_addN rfl rfl (by omega) rfl ?_ | refine JO_add rfl rfl (by omega) rfl ?_ | refine JO_sub rfl rfl (by omega) rfl ?_ | refine JO_extract rfl rfl rfl ?_ | refine JO_boxA rfl rfl (fun r => ?_) | refine JO_box1 rfl rfl rfl (fun r => ?_) | refine JO_allocA rfl (fun r => ?_) | refine JO_alloc1 (by rfl) rfl (fun r => ?_) | refine JO_makeFunc rfl rfl rfl ?_ | refine JO_makeIface (by simp) rfl rfl ?_ | refine JO_store rfl rfl (by first | rfl | assumption) rfl ?_ | refine JO_storeW rfl rfl (by rfl) (by rfl) (by first | decide | simp [Value.oneCell']) rfl ?_ | refine JO_index1 rfl rfl (by omega) rfl ?_ | refine JO_index rfl rfl (by omega) rfl ?_) | refine JL_pass rfl rfl rfl ?_ | refine JL_passN rfl rfl rfl ?_))
        obtain ⟨nx, hnx⟩ : ∃ nx, nx = nextOf xs b := ⟨_, rfl⟩
        have hnl : nx.length = (goes xs (lastOf xs b)).length := by rw [hnx]; simp [nextOf]
        refine J_range (σ := { v : Value // v.oneCell' = true }) (τ := Empty) (fun i y => [pt r (.cells #[y.1] 24 (0, 0)), OwnS 3 1 y.1 i (ints (nx.take i)), Marks rs, pt bf (.cells #[.slice ps (startsL xs).length cs, v] 27 (0, 0)), OwnS 24 1 v b lvs, Lists lvs ((List.range b).map (nextOf xs)), Vw 1 (.slice ps (startsL xs).length cs) (startsL xs).length (ints (startsL xs)), pt br (.cells #[.slice none 0 0, .slice none 0 0] 27 (0, 0)), VCode (.slice p xs.length cap) xs])
          Empty.elim Empty.elim rfl (ways1_c p cap bb.1 bb.2 (lastOf xs b) xs x hx hs (by omega)) ?_ ?_ ⟨.slice none 0 0, rfl⟩ ?_ ?_ ?_ ?_
        · simp
        · decide
        · exact (Ent.dup (VCode (.slice p xs.length cap) xs)).trans ((Ent.cons (A := OwnS 3 1 (.slice none 0 0) 0 []) fun _ _ => Sat.own_nil).trans (by simp only [List.take_zero, ints, List.map_nil, List.cons_append, List.nil_append]; exact Ent.sel))
        · rintro l rec i y ⟨u, hu⟩ hy
          obtain ⟨t, ht, rfl⟩ : ∃ t, (goes xs (lastOf xs b))[i]? = some t ∧ y = [.int .i64 t] := by
            simp only [List.getElem?_map, Option.map_eq_some_iff] at hy
            obtain ⟨t, h1, h2⟩ := hy
            exact ⟨t, h1, h2.symm⟩
          have hi := (List.getElem?_eq_some_iff.1 ht).1
          dsimp only
          repeat (first | (first | refine J_region ?_ | refine JL_nil ?_ | refine J_seq ?_ | refine J_block ?_ | refine J_skip ?_ | refine J_label ?_ | refine J_condT rfl ?_ | refine J_condF rfl ?_ | refine J_exit ?_ | refine J_ret ?_) | (first | ((first | refine JL_step rfl ?_ | refine JL_take rfl rfl ?_); first | refine JO_move rfl rfl ?_ | refine JO_assign rfl rfl ?_ | refine JO_len rfl rfl ?_ | refine JO_lenS rfl rfl ?_ | refine JO_field0 rfl rfl ?_ | refine JO_field rfl rfl ?_ | refine JO_load rfl rfl ?_ | refine JO_loadW rfl (by rfl) rfl ?_ | refine JO_pickT rfl rfl rfl ?_ | refine JO_pickF rfl rfl rfl ?_ | refine JO_lss rfl rfl rfl ?_ | refine JO_leq rfl rfl rfl ?_ | refine JO_gtr rfl rfl rfl ?_ | refine JO_geq rfl rfl rfl ?_ | refine JO_eqI rfl rfl rfl ?_ | refine JO_neI rfl rfl rfl ?_ | refine JO_and rfl rfl rfl ?_ | refine JO_or rfl rfl rfl ?_ | refine JO_xor rfl rfl rfl ?_ | refine JO_andNot rfl rfl rfl ?_ | refine JO_conv rfl rfl ?_ | refine JO_eqNilS rfl rfl ?_ | refine JO_buildSlice rfl rfl rfl (by decide) rfl (fun r => ?_) | refine JO_notP rfl rfl ?_ | refine JO_not rfl rfl ?_ | refine JO_addN rfl rfl (by omega) rfl ?_ | refine JO_add rfl rfl (by omega) rfl ?_ | refine JO_sub rfl rfl (by omega) rfl ?_ | refine JO_extract rfl rfl rfl ?_ | refine JO_boxA rfl rfl (fun r => ?_) | refine JO_box1 rfl rfl rfl (fun r => ?_) | refine JO_allocA rfl (fun r => ?_) | refine JO_alloc1 (by rfl) rfl (fun r => ?_) | refine JO_makeFunc rfl rfl rfl ?_ | refine JO_makeIface (by simp) rfl rfl ?_ | refine JO_store rfl rfl (by first | rfl | assumption) rfl ?_ | refine JO_storeW rfl rfl (by rfl) (by rfl) (by first | decide | simp [Value.oneCell']) rfl ?_ | refine JO_index1 rfl rfl (by omega) rfl ?_ | refine JO_index rfl rfl (by omega) rfl ?_) | refine JL_pass rfl rfl rfl ?_ | refine JL_passN rfl rfl rfl ?_))
          refine JL_step rfl (JO_callEP rfl (bsearch_c ps cs (startsL xs) t (by unfold startsL; exact stL_rises _ _) (by omega)) rfl fun z hz => ?_)
          obtain ⟨n, bo⟩ := z
          obtain ⟨hz1, hz2, hz3⟩ := hz
          dsimp only at hz1 hz2 hz3
          dsimp only
          have hnn : nx[i]? = some (n : Int) := by
            rw [hnx]
            simp [nextOf, ht, ← below_of hz1 hz2 hz3]
          have e : ints (nx.take (i + 1)) = ints (nx.take i) ++ [.int .i64 (n : Int)] := by rw [List.take_add_one, hnn]; simp [ints]
          repeat (first | (first | refine J_region ?_ | refine JL_nil ?_ | refine J_seq ?_ | refine J_block ?_ | refine J_skip ?_ | refine J_label ?_ | refine J_condT rfl ?_ | refine J_condF rfl ?_ | refine J_exit ?_ | refine J_ret ?_) | (first | ((first | refine JL_step rfl ?_ | refine JL_take rfl rfl ?_); first | refine JO_move rfl rfl ?_ | refine JO_assign rfl rfl ?_ | refine JO_len rfl rfl ?_ | refine JO_lenS rfl rfl ?_ | refine JO_field0 rfl rfl ?_ | refine JO_field rfl rfl ?_ | refine JO_load rfl rfl ?_ | refine JO_loadW rfl (by rfl) rfl ?_ | refine JO_pickT rfl rfl rfl ?_ | refine JO_pickF rfl rfl rfl ?_ | refine JO_lss rfl rfl rfl ?_ | refine JO_leq rfl rfl rfl ?_ | refine JO_gtr rfl rfl rfl ?_ | refine JO_geq rfl rfl rfl ?_ | refine JO_eqI rfl rfl rfl ?_ | refine JO_neI rfl rfl rfl ?_ | refine JO_and rfl rfl rfl ?_ | refine JO_or rfl rfl rfl ?_ | refine JO_xor rfl rfl rfl ?_ | refine JO_andNot rfl rfl rfl ?_ | refine JO_conv rfl rfl ?_ | refine JO_eqNilS rfl rfl ?_ | refine JO_buildSlice rfl rfl rfl (by decide) rfl (fun r => ?_) | refine JO_notP rfl rfl ?_ | refine JO_not rfl rfl ?_ | refine JO_addN rfl rfl (by omega) rfl ?_ | refine JO_add rfl rfl (by omega) rfl ?_ | refine JO_sub rfl rfl (by omega) rfl ?_ | refine JO_extract rfl rfl rfl ?_ | refine JO_boxA rfl rfl (fun r => ?_) | refine JO_box1 rfl rfl rfl (fun r => ?_) | refine JO_allocA rfl (fun r => ?_) | refine JO_alloc1 (by rfl) rfl (fun r => ?_) | refine JO_makeFunc rfl rfl rfl ?_ | refine JO_makeIface (by simp) rfl rfl ?_ | refine JO_store rfl rfl (by first | rfl | assumption) rfl ?_ | refine JO_storeW rfl rfl (by rfl) (by rfl) (by first | decide | simp [Value.oneCell']) rfl ?_ | refine JO_index1 rfl rfl (by omega) rfl ?_ | refine JO_index rfl rfl (by omega) rfl ?_) | refine JL_pass rfl rfl rfl ?_ | refine JL_passN rfl rfl rfl ?_))
          refine JL_step rfl (JO_appendB rfl rfl (by rfl) (by decide) (by rfl) (by simp [Value.oneCell']) (by omega) (by decide) rfl fun u' hu' => ?_)
          repeat (first | (first | refine J_region ?_ | refine JL_nil ?_ | refine J_seq ?_ | refine J_block ?_ | refine J_skip ?_ | refine J_label ?_ | refine J_condT rfl ?_ | refine J_condF rfl ?_ | refine J_exit ?_ | refine J_ret ?_) | (first | ((first | refine JL_step rfl ?_ | refine JL_take rfl rfl ?_); first | refine JO_move rfl rfl ?_ | refine JO_assign rfl rfl ?_ | refine JO_len rfl rfl ?_ | refine JO_lenS rfl rfl ?_ | refine JO_field0 rfl rfl ?_ | refine JO_field rfl rfl ?_ | refine JO_load rfl rfl ?_ | refine JO_loadW rfl (by rfl) rfl ?_ | refine JO_pickT rfl rfl rfl ?_ | refine JO_pickF rfl rfl rfl ?_ | refine JO_lss rfl rfl rfl ?_ | refine JO_leq rfl rfl rfl ?_ | refine JO_gtr rfl rfl rfl ?_ | refine JO_geq rfl rfl rfl ?_ | refine JO_eqI rfl rfl rfl ?_ | refine JO_neI rfl rfl rfl ?_ | refine JO_and rfl rfl rfl ?_ | refine JO_or rfl rfl rfl ?_ | refine JO_xor rfl rfl rfl ?_ | refine JO_andNot rfl rfl rfl ?_ | refine JO_conv rfl rfl ?_ | refine JO_eqNilS rfl rfl ?_ | refine JO_buildSlice rfl rfl rfl (by decide) rfl (fun r => ?_) | refine JO_notP rfl rfl ?_ | refine JO_not rfl rfl ?_ | refine JO_addN rfl rfl (by omega) rfl ?_ | refine JO_add rfl rfl (by omega) rfl ?_ | refine JO_sub rfl rfl (by omega) rfl ?_ | refine JO_extract rfl rfl rfl ?_ | refine JO_boxA rfl rfl (fun r => ?_) | refine JO_box1 rfl rfl rfl (fun r => ?_) | refine JO_allocA rfl (fun r => ?_) | refine JO_alloc1 (by rfl) rfl (fun r => ?_) | refine JO_makeFunc rfl rfl rfl ?_ | refine JO_makeIface (by simp) rfl rfl ?_ | refine JO_store rfl rfl (by first | rfl | assumption) rfl ?_ | refine JO_storeW rfl rfl (by rfl) (by rfl) (by first | decide | simp [Value.oneCell']) rfl ?_ | refine JO_index1 rfl rfl (by omega) rfl ?_ | refine JO_index rfl rfl (by omega) rfl ?_) | refine JL_pass rfl rfl rfl ?_ | refine JL_passN rfl rfl rfl ?_))
          refine ⟨⟨u', hu'⟩, ?_⟩
          rw [e]
          exact Ent.sel
        · rintro rr ⟨u, hu⟩
          dsimp only
          rw [List.length_map, ← hnl, List.take_length]
          refine J_front (OwnS 3 1 u nx.length (ints nx)) ?_
          refine J_view fun pu cu hvu => ?_
          subst hvu
          repeat (first | (first | refine J_region ?_ | refine JL_nil ?_ | refine J_seq ?_ | refine J_block ?_ | refine J_skip ?_ | refine J_label ?_ | refine J_condT rfl ?_ | refine J_condF rfl ?_ | refine J_exit ?_ | refine J_ret ?_) | (first | ((first | refine JL_step rfl ?_ | refine JL_take rfl rfl ?_); first | refine JO_move rfl rfl ?_ | refine JO_assign rfl rfl ?_ | refine JO_len rfl rfl ?_ | refine JO_lenS rfl rfl ?_ | refine JO_field0 rfl rfl ?_ | refine JO_field rfl rfl ?_ | refine JO_load rfl rfl ?_ | refine JO_loadW rfl (by rfl) rfl ?_ | refine JO_pickT rfl rfl rfl ?_ | refine JO_pickF rfl rfl rfl ?_ | refine JO_lss rfl rfl rfl ?_ | refine JO_leq rfl rfl rfl ?_ | refine JO_gtr rfl rfl rfl ?_ | refine JO_geq rfl rfl rfl ?_ | refine JO_eqI rfl rfl rfl ?_ | refine JO_neI rfl rfl rfl ?_ | refine JO_and rfl rfl rfl ?_ | refine JO_or rfl rfl rfl ?_ | refine JO_xor rfl rfl rfl ?_ | refine JO_andNot rfl rfl rfl ?_ | refine JO_conv rfl rfl ?_ | refine JO_eqNilS rfl rfl ?_ | refine JO_buildSlice rfl rfl rfl (by decide) rfl (fun r => ?_) | refine JO_notP rfl rfl ?_ | refine JO_not rfl rfl ?_ | refine JO_addN rfl rfl (by omega) rfl ?_ | refine JO_add rfl rfl (by omega) rfl ?_ | refine JO_sub rfl rfl (by omega) rfl ?_ | refine JO_extract rfl rfl rfl ?_ | refine JO_boxA rfl rfl (fun r => ?_) | refine JO_box1 rfl rfl rfl (fun r => ?_) | refine JO_allocA rfl (fun r => ?_) | refine JO_alloc1 (by rfl) rfl (fun r => ?_) | refine JO_makeFunc rfl rfl rfl ?_ | refine JO_makeIface (by simp) rfl rfl ?_ | refine JO_store rfl rfl (by first | rfl | assumption) rfl ?_ | refine JO_storeW rfl rfl (by rfl) (by rfl) (by first | decide | simp [Value.oneCell']) rfl ?_ | refine JO_index1 rfl rfl (by omega) rfl ?_ | refine JO_index rfl rfl (by omega) rfl ?_) | refine JL_pass rfl rfl rfl ?_ | refine JL_passN rfl rfl rfl ?_))
          refine JL_step rfl (JO_appendB rfl rfl (by rfl) (by decide) (by rfl) (by simp [Value.oneCell']) (by omega) (by decide) rfl fun v' hv' => ?_)
          repeat (first | (first | refine J_region ?_ | refine JL_nil ?_ | refine J_seq ?_ | refine J_block ?_ | refine J_skip ?_ | refine J_label ?_ | refine J_condT rfl ?_ | refine J_condF rfl ?_ | refine J_exit ?_ | refine J_ret ?_) | (first | ((first | refine JL_step rfl ?_ | refine JL_take rfl rfl ?_); first | refine JO_move rfl rfl ?_ | refine JO_assign rfl rfl ?_ | refine JO_len rfl rfl ?_ | refine JO_lenS rfl rfl ?_ | refine JO_field0 rfl rfl ?_ | refine JO_field rfl rfl ?_ | refine JO_load rfl rfl ?_ | refine JO_loadW rfl (by rfl) rfl ?_ | refine JO_pickT rfl rfl rfl ?_ | refine JO_pickF rfl rfl rfl ?_ | refine JO_lss rfl rfl rfl ?_ | refine JO_leq rfl rfl rfl ?_ | refine JO_gtr rfl rfl rfl ?_ | refine JO_geq rfl rfl rfl ?_ | refine JO_eqI rfl rfl rfl ?_ | refine JO_neI rfl rfl rfl ?_ | refine JO_and rfl rfl rfl ?_ | refine JO_or rfl rfl rfl ?_ | refine JO_xor rfl rfl rfl ?_ | refine JO_andNot rfl rfl rfl ?_ | refine JO_conv rfl rfl ?_ | refine JO_eqNilS rfl rfl ?_ | refine JO_buildSlice rfl rfl rfl (by decide) rfl (fun r => ?_) | refine JO_notP rfl rfl ?_ | refine JO_not rfl rfl ?_ | refine JO_addN rfl rfl (by omega) rfl ?_ | refine JO_add rfl rfl (by omega) rfl ?_ | refine JO_sub rfl rfl (by omega) rfl ?_ | refine JO_extract rfl rfl rfl ?_ | refine JO_boxA rfl rfl (fun r => ?_) | refine JO_box1 rfl rfl rfl (fun r => ?_) | refine JO_allocA rfl (fun r => ?_) | refine JO_alloc1 (by rfl) rfl (fun r => ?_) | refine JO_makeFunc rfl rfl rfl ?_ | refine JO_makeIface (by simp) rfl rfl ?_ | refine JO_store rfl rfl (by first | rfl | assumption) rfl ?_ | refine JO_storeW rfl rfl (by rfl) (by rfl) (by first | decide | simp [Value.oneCell']) rfl ?_ | refine JO_index1 rfl rfl (by omega) rfl ?_ | refine JO_index rfl rfl (by omega) rfl ?_) | refine JL_pass rfl rfl rfl ?_ | refine JL_passN rfl rfl rfl ?_))
          refine ⟨⟨(b + 1, v', rr :: rs, lvs ++ [.slice pu nx.length cu]), hb2, hv'⟩, by simp only; omega, by (repeat (first | exact sub_nil _ | refine sub_cons rfl ?_)), rfl, ?_⟩
          refine (Ent.sel (K := pt rr (.deferred (some [])) :: Marks rs :: Lists lvs ((List.range b).map (nextOf xs)) :: Vw 1 (.slice pu nx.length cu) nx.length (ints nx) :: [pt bf (.cells #[.slice ps (startsL xs).length cs, v'] 27 (0, 0)), OwnS 24 1 v' (b + 1) (lvs ++ [.slice pu nx.length cu]), Vw 1 (.slice ps (startsL xs).length cs) (startsL xs).length (ints (startsL xs)), pt br (.cells #[.slice none 0 0, .slice none 0 0] 27 (0, 0)), VCode (.slice p xs.length cap) xs])).trans
            (Ent.mark.trans ((Ent.keep (Ent.lists_push rfl)).trans ?_))
          rw [List.range_succ, List.map_append, List.map_cons, List.map_nil, ← hnx]
          exact Ent.sel
        · rintro rr s
          exact s.elim
    · obtain rfl : b = (startsL xs).length := by omega
      refine J_front (OwnS 24 1 v (startsL xs).length lvs) ?_
      refine J_view fun pn cn hvn => ?_
      subst hvn
      repeat (first | (first | refine J_region ?_ | refine JL_nil ?_ | refine J_seq ?_ | refine J_block ?_ | refine J_skip ?_ | refine J_label ?_ | refine J_condT rfl ?_ | refine J_condF rfl ?_ | refine J_exit ?_ | refine J_ret ?_) | (first | ((first | refine JL_step rfl ?_ | refine JL_take rfl rfl ?_); first | refine JO_move rfl rfl ?_ | refine JO_assign rfl rfl ?_ | refine JO_len rfl rfl ?_ | refine JO_lenS rfl rfl ?_ | refine JO_field0 rfl rfl ?_ | refine JO_field rfl rfl ?_ | refine JO_load rfl rfl ?_ | refine JO_loadW rfl (by rfl) rfl ?_ | refine JO_pickT rfl rfl rfl ?_ | refine JO_pickF rfl rfl rfl ?_ | refine JO_lss rfl rfl rfl ?_ | refine JO_leq rfl rfl rfl ?_ | refine JO_gtr rfl rfl rfl ?_ | refine JO_geq rfl rfl rfl ?_ | refine JO_eqI rfl rfl rfl ?_ | refine JO_neI rfl rfl rfl ?_ | refine JO_and rfl rfl rfl ?_ | refine JO_or rfl rfl rfl ?_ | refine JO_xor rfl rfl rfl ?_ | refine JO_andNot rfl rfl rfl ?_ | refine JO_conv rfl rfl ?_ | refine JO_eqNilS rfl rfl ?_ | refine JO_buildSlice rfl rfl rfl (by decide) rfl (fun r => ?_) | refine JO_notP rfl rfl ?_ | refine JO_not rfl rfl ?_ | refine JO_addN rfl rfl (by omega) rfl ?_ | refine JO_add rfl rfl (by omega) rfl ?_ | refine JO_sub rfl rfl (by omega) rfl ?_ | refine JO_extract rfl rfl rfl ?_ | refine JO_boxA rfl rfl (fun r => ?_) | refine JO_box1 rfl rfl rfl (fun r => ?_) | refine JO_allocA rfl (fun r => ?_) | refine JO_alloc1 (by rfl) rfl (fun r => ?_) | refine JO_makeFunc rfl rfl rfl ?_ | refine JO_makeIface (by simp) rfl rfl ?_ | refine JO_store rfl rfl (by first | rfl | assumption) rfl ?_ | refine JO_storeW rfl rfl (by rfl) (by rfl) (by first | decide | simp [Value.oneCell']) rfl ?_ | refine JO_index1 rfl rfl (by omega) rfl ?_ | refine JO_index rfl rfl (by omega) rfl ?_) | refine JL_pass rfl rfl rfl ?_ | refine JL_passN rfl rfl rfl ?_))
      have hlen : (nextsL xs).length = (startsL xs).length := by simp [nextsL]
      refine retMs_cell (M := [pt br (.cells #[.slice ps (startsL xs).length cs, .slice pn (startsL xs).length cn] 27 (0, 0)), Vw 1 (.slice pn (startsL xs).length cn) (startsL xs).length lvs, Lists lvs ((List.range (startsL xs).length).map (nextOf xs)), Vw 1 (.slice ps (startsL xs).length cs) (startsL xs).length (ints (startsL xs))])
        rfl rfl rfl Ent.sel rfl ((ps, cs), (pn, cn)) trivial (by rw [hlen]) ?_
      refine (Ent.sel (K := [Vw 1 (.slice pn (startsL xs).length cn) (startsL xs).length lvs, Lists lvs ((List.range (startsL xs).length).map (nextOf xs)), Vw 1 (.slice ps (startsL xs).length cs) (startsL xs).length (ints (startsL xs))])).trans ((Ent.vlists (by simp)).trans ?_)
      dsimp only
      rw [hlen]
      exact Ent.sel (K := [_, VLists _ ((List.range (startsL xs).length).map (nextOf xs))])
end Go.Proofs.Ytemanjljjlpbgaa
