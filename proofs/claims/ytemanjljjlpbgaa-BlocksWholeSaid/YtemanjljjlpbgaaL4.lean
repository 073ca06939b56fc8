/- Layer 10: what BlocksWhole asks, in plain words -/
import Derived.Test.YtemanjljjlpbgaaL2
namespace Go.Proofs.Ytemanjljjlpbgaa
open Go Go.Sp
theorem cut_err {xs : List Insn} (h : (cutF xs).e ≠ 0) : (cutF xs).st = [] ∧ (cutF xs).nx = [] ∧ (decide ((cutF xs).at_ = -1) == decide ((cutF xs).e = 2)) = true ∧ (cutF xs).at_ < (xs.length : Int) := by
  unfold cutF at h ⊢
  split at h
  · rename_i h1
    rw [if_pos h1]
    exact ⟨rfl, rfl, rfl, by simp only; omega⟩
  · rename_i h1
    rw [if_neg h1]
    split at h
    · rename_i h2
      rw [if_pos h2]
      rcases firstOf_cases (Wrong xs) xs.length with ⟨h5, _⟩ | ⟨k, h5, h6, _⟩
      · rw [h5] at h2; omega
      · refine ⟨rfl, rfl, ?_, by simp only; omega⟩
        simp only [h5]
        rw [decide_eq_false (by omega)]; rfl
    · rename_i h2
      rw [if_neg h2]
      split at h
      · rename_i h3
        rw [if_pos h3]
        obtain ⟨s, h4, h5, h6, _⟩ := dead_told h3
        rw [h4]
        refine ⟨rfl, rfl, ?_, by simp only; omega⟩
        simp only
        rw [decide_eq_false (by omega)]; rfl
      · rename_i h3
        rw [if_neg h3]
        split at h
        · rename_i h4
          rw [if_pos h4]
          unfold silentI at h4 ⊢
          rcases firstOf_cases (Bad xs) xs.length with ⟨h5, _⟩ | ⟨k, h5, h6, _⟩
          · rw [h5] at h4; omega
          · refine ⟨rfl, rfl, ?_, by simp only; omega⟩
            simp only [h5]
            rw [decide_eq_false (by omega)]; rfl
        · exact absurd rfl h
/-- The numbers of the first j starts. -/
def numF (st : List Int) : Nat → Int → Option Value
  | 0 => fun _ => none
  | j + 1 => updF (numF st j) ((st[j]?).getD 0) (.int .i64 (j : Int))
theorem numF_zero (st : List Int) : numF st 0 = fun _ => none := rfl
theorem numF_succ {st : List Int} {j : Nat} {s : Int} (h : st[j]? = some s) : updF (numF st j) s (.int .i64 (j : Int)) = numF st (j + 1) := by simp [numF, h]
theorem numF_get {st : List Int} (hr : Rises st) : ∀ (j d : Nat) (s : Int), d < j → j ≤ st.length → st[d]? = some s → numF st j s = some (.int .i64 (d : Int))
  | 0, d, s, h, _, _ => by omega
  | j + 1, d, s, h, hj, hs => by
    simp only [numF, updF]
    have hj2 : st[j]? = some (st[j]'(by omega)) := List.getElem?_eq_getElem (by omega)
    by_cases hd : d = j
    · subst hd; rw [hs]; simp
    · have h1 := hr d j _ _ (by omega) hs hj2
      have h2 : ¬ s = (st[j]?).getD 0 := by rw [hj2]; simp only [Option.getD_some]; omega
      rw [if_neg h2]
      exact numF_get hr j d s (by omega) (by omega) hs
/-- What is marked as reached by the first j of a block's ways. -/
def goR (R : Int → Bool) (b : Nat) (l : List Int) (j : Nat) : Int → Bool := fun z => R z || (l.take j).any (fun t => decide (z = t) && decide ((b : Int) < t))
theorem goR_zero (R : Int → Bool) (b : Nat) (l : List Int) : goR R b l 0 = R := by funext z; simp [goR]
theorem goR_yes {R : Int → Bool} {b j : Nat} {l : List Int} {t : Int} (h : l[j]? = some t) (ht : (b : Int) < t) : updF (mk (goR R b l j)) t (.int .i64 1) = mk (goR R b l (j + 1)) := by
  rw [mk_upd]
  congr 1
  funext z
  simp [goR, List.take_add_one, h, Bool.or_assoc]
  by_cases hz : z = t
  · subst hz; simp [ht]
  · simp [hz]
theorem goR_no {R : Int → Bool} {b j : Nat} {l : List Int} {t : Int} (h : l[j]? = some t) (ht : ¬ (b : Int) < t) : goR R b l (j + 1) = goR R b l j := by
  funext z
  simp [goR, List.take_add_one, h, ht]
def reachedF (xs : List Insn) : Nat → Int → Bool
  | 0 => fun z => decide (z = 0)
  | b + 1 => goR (reachedF xs b) b (nextOf xs b) (nextOf xs b).length
theorem reachedF_zero (xs : List Insn) : reachedF xs 0 = fun z => decide (z = 0) := rfl
theorem reachedF_succ (xs : List Insn) (b : Nat) : reachedF xs (b + 1) = goR (reachedF xs b) b (nextOf xs b) (nextOf xs b).length := rfl
theorem start_last {xs : List Insn} {b s : Nat} (h : (startsL xs)[b]? = some (s : Int)) : s ≤ lastOf xs b := by
  have hb := (List.getElem?_eq_some_iff.1 h).1
  obtain ⟨x, hx, he⟩ := last_ok hb
  unfold endOf at he
  split at he
  · rename_i e h2
    have := starts_rise xs b (b + 1) _ _ (by omega) h h2
    omega
  · obtain ⟨k, h3, h4, _⟩ := starts_nat h
    omega
theorem reachedF_up {xs : List Insn} {z : Int} : ∀ {a b : Nat}, a ≤ b → reachedF xs a z = true → reachedF xs b z = true := by
  intro a b h h1
  induction b with
  | zero => obtain rfl : a = 0 := by omega
            exact h1
  | succ b ih =>
    by_cases hb : a = b + 1
    · subst hb; exact h1
    · simp only [reachedF, goR, Bool.or_eq_true]
      exact .inl (ih (by omega))
theorem reachedF_ok {xs : List Insn} (h : ¬ 0 < deadB (nextsL xs)) {b : Nat} (hb : b < (startsL xs).length) : reachedF xs b (b : Int) = true := by
  by_cases h0 : b = 0
  · subst h0; rfl
  · have hl : (nextsL xs).length = (startsL xs).length := by simp [nextsL]
    obtain ⟨a, l, h1, h2, h3⟩ := dead_all nexts_nat h b (by omega) (by omega)
    rw [nexts_at (by omega)] at h2
    cases h2
    refine reachedF_up (a := a + 1) h1 ?_
    simp only [reachedF, goR, List.take_length, Bool.or_eq_true, List.any_eq_true, Bool.and_eq_true, decide_eq_true_eq]
    exact .inr ⟨(b : Int), h3, rfl, by omega⟩
theorem mk_start : updF (fun _ => none) 0 (.int .i64 1) = mk (fun z => decide (z = 0)) := by funext j; simp [updF, mk]
end Go.Proofs.Ytemanjljjlpbgaa
