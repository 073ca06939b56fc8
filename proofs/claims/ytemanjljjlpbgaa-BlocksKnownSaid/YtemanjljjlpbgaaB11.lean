/- Layer 10: Cut -/
import Derived.Test.YtemanjljjlpbgaaB10
import Derived.Test.YtemanjljjlpbgaaSp13
namespace Go.Proofs.Ytemanjljjlpbgaa
open Go Go.Sp
attribute [local irreducible] J JL JO Ct

instance mixed : Mixed Try.prog := ⟨by kernel_rfl⟩
/-- An instruction that goes on as it may not. -/
def Wrong (xs : List Insn) (i : Nat) : Prop := ∃ x, xs[i]? = some x ∧ rightB xs i x = false
structure Cutted where
  (st : List Int) (nx : List (List Int)) (at_ e : Int)
noncomputable def cutF (xs : List Insn) : Cutted :=
  if xs.length = 0 ∨ 128 < xs.length then ⟨[], [], -1, 2⟩
  else if 0 ≤ firstOf (Wrong xs) xs.length then ⟨[], [], firstOf (Wrong xs) xs.length, 12⟩
  else if 0 < deadB (nextsL xs) then ⟨[], [], ((startsL xs)[(deadB (nextsL xs)).toNat]?).getD 0, 13⟩
  else if 0 ≤ silentI xs then ⟨[], [], silentI xs, 14⟩
  else ⟨startsL xs, nextsL xs, -1, 0⟩
theorem firstOf_cases (p : Nat → Prop) (n : Nat) : (firstOf p n = -1 ∧ ∀ j, j < n → ¬ p j) ∨ ∃ k : Nat, firstOf p n = (k : Int) ∧ k < n ∧ p k ∧ ∀ j, j < k → ¬ p j := by
  by_cases h : ∃ k, k < n ∧ p k
  · right
    obtain ⟨k, hk⟩ := h
    induction k using Nat.strongRecOn with
    | _ k ih =>
      by_cases h2 : ∃ j, j < k ∧ p j
      · obtain ⟨j, hj, hpj⟩ := h2
        exact ih j hj ⟨by omega, hpj⟩
      · have hb : ∀ j, j < k → ¬ p j := fun j hj hp => h2 ⟨j, hj, hp⟩
        exact ⟨k, firstOf_hit hk.1 hb hk.2, hk.1, hk.2, hb⟩
  · left
    have hb : ∀ j, j < n → ¬ p j := fun j hj hp => h ⟨j, hj, hp⟩
    exact ⟨firstOf_none hb, hb⟩
theorem inside_of {xs : List Insn} (h : ∀ j, j < xs.length → ¬ Wrong xs j) : Inside xs := by
  intro k t ht
  unfold goesI at ht
  split at ht
  · rename_i h0
    unfold goes at ht
    split at ht
    · rename_i x hx
      have hk := (List.getElem?_eq_some_iff.1 hx).1
      have hr : rightB xs k.toNat x = true := by
        cases hb : rightB xs k.toNat x with
        | true => rfl
        | false => exact absurd ⟨x, hx, hb⟩ (h _ hk)
      unfold rightB at hr
      simp only [Bool.and_eq_true, Bool.not_eq_true', Bool.or_eq_true, decide_eq_true_eq] at hr
      obtain ⟨⟨_, h1⟩, h2⟩ := hr
      rw [List.mem_append] at ht
      rcases ht with ht | ht
      · rw [List.any_eq_false] at h1
        have := h1 t ht
        simp only [outB, Bool.or_eq_true, decide_eq_true_eq, not_or] at this
        omega
      · split at ht
        · cases ht
        · rename_i hc
          simp at ht
          subst ht
          have : (k.toNat : Int) < (xs.length : Int) - 1 := h2.resolve_right (by simpa using hc)
          omega
    · cases ht
  · cases ht
theorem below_lt {l : List Int} {t : Int} (ht : t ∈ l) : below l t < l.length := by
  unfold below
  refine Nat.lt_of_le_of_ne (List.length_filter_le _ _) fun he => ?_
  have h1 := List.length_filter_eq_length_iff.1 he t ht
  simp at h1
theorem mkS_tgt {xs : List Insn} {i : Nat} {x : Insn} {t : Int} (hx : xs[i]? = some x) (ht : t ∈ tgts x) : ∀ n, i < n → mkS xs n t = true := by
  intro n
  induction n with
  | zero => intro h; omega
  | succ n ih =>
    intro hin
    simp only [mkS, Bool.or_eq_true]
    by_cases hni : i = n
    · subst hni
      right
      simp only [hx, Bool.or_eq_true]
      left
      rw [List.any_eq_true]
      exact ⟨t, ht, by simp⟩
    · left; exact ih (by omega)
theorem next_start {xs : List Insn} (hin : Inside xs) {b : Nat} (hb : b < (startsL xs).length) {t : Int} (ht : t ∈ goes xs (lastOf xs b)) : t ∈ startsL xs := by
  obtain ⟨x, hx, hl⟩ := last_ok hb
  have hr := hin (lastOf xs b : Int) t (by simpa [goesI] using ht)
  simp only [goes, hx, List.mem_append] at ht
  rcases ht with ht | ht
  · have hm := mkS_tgt hx ht xs.length (List.getElem?_eq_some_iff.1 hx).1
    unfold startsL
    rw [stL_mem]
    exact ⟨t.toNat, by omega, by omega, by rw [show ((t.toNat : Nat) : Int) = t by omega]; exact hm⟩
  · split at ht
    · cases ht
    · simp at ht
      have he : t = endOf xs b := by omega
      unfold endOf at he
      split at he
      · rename_i e h2
        subst he
        exact List.mem_of_getElem? h2
      · omega
theorem nexts_in {xs : List Insn} (hin : Inside xs) : ∀ l ∈ nextsL xs, ∀ t ∈ l, 0 ≤ t ∧ t < ((startsL xs).length : Int) := by
  intro l hl t ht
  simp only [nextsL, List.mem_map, List.mem_range] at hl
  obtain ⟨b, hb, rfl⟩ := hl
  simp only [nextOf, List.mem_map] at ht
  obtain ⟨u, hu, rfl⟩ := ht
  have := below_lt (next_start hin hb hu)
  omega
theorem nexts_len {xs : List Insn} (hs : Small xs) : ∀ l ∈ nextsL xs, l.length ≤ 140737488355328 := by
  intro l hl
  simp only [nextsL, List.mem_map, List.mem_range] at hl
  obtain ⟨b, hb, rfl⟩ := hl
  obtain ⟨x, hx, _⟩ := last_ok hb
  have h1 := goes_le xs _ x hx
  have h2 := hs x (List.mem_of_getElem? hx)
  simp only [nextOf, List.length_map]
  omega
theorem dead_lt : ∀ (nx : List (List Int)) (b : Nat) (rs : List Bool), deadF nx b rs = 0 ∨ ∃ k : Nat, deadF nx b rs = (k : Int) ∧ 0 < k ∧ k < b + nx.length
  | [], b, rs => .inl rfl
  | l :: ls, b, rs => by
    simp only [deadF]
    split
    · rename_i h
      simp only [Bool.and_eq_true, decide_eq_true_eq] at h
      exact .inr ⟨b, rfl, h.1, by simp⟩
    · rcases dead_lt ls (b + 1) (l.foldl (markD b) rs) with h | ⟨k, h1, h2, h3⟩
      · exact .inl h
      · exact .inr ⟨k, h1, h2, by simp; omega⟩
theorem ent_noRow {L : List HP} : Ent L (Vw 1 (.slice none 0 0) 0 [] :: VLists (.slice none 0 0) [] :: L) := fun F w hs => by
  have hv : ∀ k : Part, Vw 1 (.slice none 0 0) 0 [] k := fun k => ⟨rfl, Nat.zero_le _, none, 0, rfl, .inl rfl⟩
  have h1 : Sat w (VLists (.slice none 0 0) [] :: F :: L) := hs.add ⟨[], hv _, lists_nil _⟩
  have h2 : Sat w (Vw 1 (.slice none 0 0) 0 [] :: VLists (.slice none 0 0) [] :: F :: L) := h1.add (hv _)
  exact h2.perm ((List.Perm.cons _ (List.Perm.swap _ _ _)).trans (List.Perm.swap _ _ _))
end Go.Proofs.Ytemanjljjlpbgaa
