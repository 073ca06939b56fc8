/- Layer 10: what is swept up in rounds -/
import Derived.Test.YtemanjljjlpbgaaL1
namespace Go.Proofs.Ytemanjljjlpbgaa
open Go Go.Sp
def stepS (xs : List Insn) (S : Int → Bool) (i : Nat) : Int → Bool := if S (i : Int) && !talksAt xs (i : Int) then mkT S (goesI xs (i : Int)) (goesI xs (i : Int)).length else S
def roundS (xs : List Insn) (S : Int → Bool) : Nat → Int → Bool
  | 0 => S
  | m + 1 => stepS xs (roundS xs S m) m
def sweepS (xs : List Insn) (S : Int → Bool) : Nat → Int → Bool
  | 0 => S
  | n + 1 => roundS xs (sweepS xs S n) xs.length
theorem mkT_mem {S : Int → Bool} {l : List Int} {k : Int} : mkT S l l.length k = true ↔ S k = true ∨ k ∈ l := by
  simp only [mkT, List.take_length, Bool.or_eq_true, List.any_eq_true, decide_eq_true_eq]
  constructor
  · rintro (h | ⟨t, h, rfl⟩)
    · exact .inl h
    · exact .inr h
  · rintro (h | h)
    · exact .inl h
    · exact .inr ⟨k, h, rfl⟩
theorem up_step {xs : List Insn} {S : Int → Bool} {i : Nat} {k : Int} (h : S k = true) : stepS xs S i k = true := by
  unfold stepS
  split
  · exact mkT_mem.2 (.inl h)
  · exact h
theorem up_round {xs : List Insn} {S : Int → Bool} {k : Int} : ∀ {n m : Nat}, n ≤ m → roundS xs S n k = true → roundS xs S m k = true := by
  intro n m h h1
  induction m with
  | zero => obtain rfl : n = 0 := by omega
            exact h1
  | succ m ih =>
    by_cases hm : n = m + 1
    · subst hm; exact h1
    · exact up_step (ih (by omega))
theorem round_closed {xs : List Insn} {S : Int → Bool} {i m : Nat} {t : Int} (hi : i < m) (h1 : S (i : Int) = true) (h2 : talksAt xs (i : Int) = false) (ht : t ∈ goesI xs (i : Int)) : roundS xs S m t = true := by
  refine up_round (n := i + 1) hi ?_
  have h3 : roundS xs S i (i : Int) = true := up_round (n := 0) (Nat.zero_le _) h1
  simp only [roundS, stepS, h3, h2, Bool.not_false, Bool.and_self, if_true]
  exact mkT_mem.2 (.inr ht)
def Shut (xs : List Insn) (S : Int → Bool) : Prop := ∀ i : Nat, i < xs.length → S (i : Int) = true → talksAt xs (i : Int) = false → ∀ t ∈ goesI xs (i : Int), S t = true
theorem shut_round {xs : List Insn} {S : Int → Bool} (h : Shut xs S) : ∀ m, m ≤ xs.length → roundS xs S m = S
  | 0, _ => rfl
  | m + 1, hm => by
    simp only [roundS, shut_round h m (by omega), stepS]
    split
    · rename_i hc
      simp only [Bool.and_eq_true, Bool.not_eq_true'] at hc
      funext k
      cases hk : S k with
      | true => exact mkT_mem.2 (.inl hk)
      | false =>
        cases hk2 : mkT S (goesI xs (m : Int)) (goesI xs (m : Int)).length k with
        | false => rfl
        | true =>
          rcases mkT_mem.1 hk2 with h1 | h1
          · rw [hk] at h1; cases h1
          · rw [h m (by omega) hc.1 hc.2 k h1] at hk; cases hk
    · rfl
def tally (S : Int → Bool) : Nat → Nat
  | 0 => 0
  | n + 1 => tally S n + (if S (n : Int) then 1 else 0)
theorem tally_le (S : Int → Bool) : ∀ n, tally S n ≤ n
  | 0 => Nat.le_refl _
  | n + 1 => by have := tally_le S n; simp only [tally]; split <;> omega
theorem tally_up {S T : Int → Bool} : ∀ n, (∀ k : Nat, k < n → S (k : Int) = true → T (k : Int) = true) → tally S n ≤ tally T n
  | 0, _ => Nat.le_refl _
  | n + 1, h => by
    have h1 := tally_up n (fun k hk => h k (by omega))
    have h2 := h n (by omega)
    simp only [tally]
    cases hS : S (n : Int) <;> cases hT : T (n : Int) <;> simp_all <;> omega
theorem tally_same {S T : Int → Bool} : ∀ n, (∀ k : Nat, k < n → S (k : Int) = true → T (k : Int) = true) → tally T n ≤ tally S n → ∀ k : Nat, k < n → T (k : Int) = true → S (k : Int) = true
  | 0, _, _ => fun k hk => by omega
  | n + 1, h, hc => fun k hk hT => by
    have h0 := tally_up n (fun k hk => h k (by omega))
    have h2 := h n (by omega)
    simp only [tally] at hc
    by_cases hkn : k = n
    · subst hkn
      cases hS : S (k : Int) with
      | true => rfl
      | false => simp [hS, hT] at hc; omega
    · refine tally_same n (fun k hk => h k (by omega)) ?_ k (by omega) hT
      cases hS : S (n : Int) <;> cases hT2 : T (n : Int) <;> simp_all <;> omega
theorem tally_pos {S : Int → Bool} {k : Nat} (h : S (k : Int) = true) : ∀ n, k < n → 1 ≤ tally S n
  | 0, hk => by omega
  | n + 1, hk => by
    simp only [tally]
    by_cases hkn : k = n
    · subst hkn; rw [if_pos h]; omega
    · have := tally_pos h n (by omega); omega
theorem reach_shut {xs : List Insn} {S : Int → Bool} {i : Nat} (hin : Inside xs) (h0 : ∀ t ∈ goesI xs (i : Int), S t = true) (hs : Shut xs S) : ∀ t : Int, Reach xs (i : Int) t → S t = true := by
  have key : ∀ t : Int, Reach xs (i : Int) t → S t = true ∧ 0 ≤ t ∧ t < (xs.length : Int) := by
    intro t ht
    induction ht with
    | one t ht => exact ⟨h0 t ht, hin _ t ht⟩
    | more k t _ _ htk ht ih =>
      obtain ⟨h1, h2, h3⟩ := ih
      obtain ⟨n, rfl⟩ := Int.eq_ofNat_of_zero_le h2
      exact ⟨hs n (by omega) h1 htk t ht, hin _ t ht⟩
  exact fun t ht => (key t ht).1
theorem reach_some {xs : List Insn} {i t : Int} (h : Reach xs i t) : ∃ u, u ∈ goesI xs i := by
  induction h with
  | one t ht => exact ⟨t, ht⟩
  | more _ _ _ _ _ _ ih => exact ih
/-- What is told of ErrSilent: a round is found by the sweep. -/
theorem silent_told {xs : List Insn} {i : Nat} (hin : Inside xs) (hb : Bad xs i) : sweepS xs (mkT (fun _ => false) (goesI xs (i : Int)) (goesI xs (i : Int)).length) xs.length (i : Int) = true := by
  generalize hS : mkT (fun _ => false) (goesI xs (i : Int)) (goesI xs (i : Int)).length = S0
  have hS0 : ∀ t ∈ goesI xs (i : Int), S0 t = true := fun t ht => by rw [← hS]; exact mkT_mem.2 (.inr ht)
  have hup : ∀ n (k : Int), S0 k = true → sweepS xs S0 n k = true := by
    intro n
    induction n with
    | zero => exact fun k h => h
    | succ n ih => exact fun k h => up_round (n := 0) (Nat.zero_le _) (ih k h)
  have key : ∀ n, Shut xs (sweepS xs S0 n) ∨ n + 1 ≤ tally (sweepS xs S0 n) xs.length := by
    intro n
    induction n with
    | zero =>
      right
      obtain ⟨u, hu⟩ := reach_some hb.2
      obtain ⟨h1, h2⟩ := hin _ u hu
      obtain ⟨k, rfl⟩ := Int.eq_ofNat_of_zero_le h1
      exact tally_pos (k := k) (hS0 _ hu) _ (by omega)
    | succ n ih =>
      rcases ih with ih | ih
      · left
        rw [show sweepS xs S0 (n + 1) = sweepS xs S0 n from shut_round ih _ (Nat.le_refl _)]
        exact ih
      · by_cases hc : tally (sweepS xs S0 (n + 1)) xs.length ≤ tally (sweepS xs S0 n) xs.length
        · left
          have hs := tally_same xs.length (fun k _ h => (up_round (n := 0) (Nat.zero_le _) h : sweepS xs S0 (n + 1) (k : Int) = true)) hc
          have hsh : Shut xs (sweepS xs S0 n) := fun j hj h1 h2 t ht => by
            have h3 := round_closed (m := xs.length) hj h1 h2 ht
            obtain ⟨h4, h5⟩ := hin _ t ht
            obtain ⟨k, rfl⟩ := Int.eq_ofNat_of_zero_le h4
            exact hs k (by omega) h3
          rw [show sweepS xs S0 (n + 1) = sweepS xs S0 n from shut_round hsh _ (Nat.le_refl _)]
          exact hsh
        · right; omega
  have hsh : Shut xs (sweepS xs S0 xs.length) := by
    rcases key xs.length with h | h
    · exact h
    · have := tally_le (sweepS xs S0 xs.length) xs.length
      omega
  exact reach_shut hin (fun t ht => hup _ t (hS0 t ht)) hsh _ hb.2
end Go.Proofs.Ytemanjljjlpbgaa
