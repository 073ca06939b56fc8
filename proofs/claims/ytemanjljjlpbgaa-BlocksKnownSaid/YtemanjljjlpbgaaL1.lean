/- Layer 10: what a code that is cut is like; codes made of rows are small; whoever goes on meets one that talks -/
import Derived.Test.YtemanjljjlpbgaaK1
namespace Go.Proofs.Ytemanjljjlpbgaa
open Go Go.Sp
theorem cut_ok {xs : List Insn} (h : (cutF xs).e = 0) : 0 < xs.length ∧ xs.length ≤ 128 ∧ (∀ j, j < xs.length → ¬ Wrong xs j) ∧ ¬ 0 < deadB (nextsL xs) ∧ (∀ j, j < xs.length → ¬ Bad xs j) ∧ cutF xs = ⟨startsL xs, nextsL xs, -1, 0⟩ := by
  unfold cutF at h ⊢
  split at h
  · cases h
  · rename_i h1
    rw [if_neg h1]
    split at h
    · cases h
    · rename_i h2
      rw [if_neg h2]
      split at h
      · cases h
      · rename_i h3
        rw [if_neg h3]
        split at h
        · cases h
        · rename_i h4
          rw [if_neg h4]
          refine ⟨by omega, by omega, ?_, h3, ?_, rfl⟩
          · rcases firstOf_cases (Wrong xs) xs.length with ⟨_, h5⟩ | ⟨k, h5, _⟩
            · exact h5
            · rw [h5] at h2; omega
          · unfold silentI at h4
            rcases firstOf_cases (Bad xs) xs.length with ⟨_, h5⟩ | ⟨k, h5, _⟩
            · exact h5
            · rw [h5] at h4; omega
theorem load_le (xs : List Insn) (h : ∀ k, (goes xs k).length ≤ 4) : ∀ (n : Nat) (se : List Bool), load xs n se ≤ n * 5
  | 0, _ => Nat.le_refl _
  | n + 1, se => by
    have h1 := load_le xs h n se
    have h2 := h n
    simp only [load]
    split <;> omega
theorem coded_get {rs : List Row} {odd : Nat} {x : Insn} (h : x ∈ codedL rs odd) : x.l.length ≤ 3 := by
  have hm : ∀ y ∈ (rs.take 128).map (rowInsn odd (rs.take 128).length), y.l.length ≤ 3 := by
    intro y hy
    obtain ⟨r, _, rfl⟩ := List.mem_map.1 hy
    show (rowTos r odd _ (rowMany r odd)).length ≤ 3
    rw [length_rowTos]
    exact rowMany_le r odd
  unfold codedL codedOf at h
  split at h
  · exact hm x h
  · rcases List.mem_or_eq_of_mem_set h with h | rfl
    · exact hm x h
    · simp [haltI]
theorem coded_len (rs : List Row) (odd : Nat) : (codedL rs odd).length ≤ 128 := by
  unfold codedL codedOf
  split <;> simp <;> omega
theorem coded_small (rs : List Row) (odd : Nat) : Small (codedL rs odd) := fun x hx => by have := coded_get hx; omega
theorem coded_load (rs : List Row) (odd : Nat) : 2 * loadAll (codedL rs odd) * 8 ≤ 140737488355328 := by
  have h := load_le (codedL rs odd) (fun k => by
    cases hx : (codedL rs odd)[k]? with
    | none => simp [goes, hx]
    | some x =>
      have h1 := goes_le _ _ x hx
      have h2 := coded_get (List.mem_of_getElem? hx)
      omega) (codedL rs odd).length (List.replicate (codedL rs odd).length false)
  have h2 := coded_len rs odd
  unfold loadAll
  omega
/-- The places where one has been, the last one first. -/
inductive Trail (xs : List Insn) : List Nat → Prop
  | one (i : Nat) : Trail xs [i]
  | more (t i : Nat) (ps : List Nat) : Trail xs (i :: ps) → talksAt xs i = false → (t : Int) ∈ goesI xs i → t ∉ i :: ps → Trail xs (t :: i :: ps)
theorem Trail.nodup {xs : List Insn} {ps : List Nat} (h : Trail xs ps) : ps.Nodup := by
  induction h with
  | one i => simp
  | more t i ps _ _ _ h4 ih => exact List.nodup_cons.2 ⟨h4, ih⟩
theorem Trail.reach {xs : List Insn} {qs : List Nat} (h : Trail xs qs) : ∀ (i : Nat) (ps : List Nat), qs = i :: ps → ∀ a ∈ ps, Reach xs a i ∧ talksAt xs a = false := by
  induction h with
  | one i => intro j ps e a ha; cases e; cases ha
  | more t i ps h1 h2 h3 h4 ih =>
    intro j qs e a ha
    cases e
    rcases List.mem_cons.1 ha with rfl | ha
    · exact ⟨.one _ h3, h2⟩
    · obtain ⟨h5, h6⟩ := ih i ps rfl a ha
      refine ⟨.more i _ h5 ?_ h2 h3, h6⟩
      have := (List.nodup_cons.1 h1.nodup).1
      intro e
      have : i = a := by omega
      subst this
      exact this ha
theorem Trail.bad {xs : List Insn} {t i : Nat} {ps : List Nat} (h : Trail xs (i :: ps)) (h2 : talksAt xs i = false) (h3 : (t : Int) ∈ goesI xs i) (h4 : t ∈ i :: ps) : Bad xs t := by
  rcases List.mem_cons.1 h4 with rfl | h4
  · exact ⟨h2, .one _ h3⟩
  · obtain ⟨h5, h6⟩ := h.reach i ps rfl t h4
    refine ⟨h6, .more i _ h5 ?_ h2 h3⟩
    have := (List.nodup_cons.1 h.nodup).1
    intro e
    have : i = t := by omega
    subst this
    exact this h4
theorem pigeon : ∀ (n : Nat) (l : List Nat), l.Nodup → (∀ x ∈ l, x < n) → l.length ≤ n
  | 0, l, _, h => by
    cases l with
    | nil => exact Nat.le_refl _
    | cons x l => exact absurd (h x (by simp)) (by omega)
  | n + 1, l, hn, h => by
    have h1 := pigeon n (l.erase n) (hn.erase n) (fun x hx => by
      have h2 := (List.Nodup.mem_erase_iff hn).1 hx
      have := h x h2.2
      have := h2.1
      omega)
    rw [List.length_erase] at h1
    split at h1 <;> omega
end Go.Proofs.Ytemanjljjlpbgaa
