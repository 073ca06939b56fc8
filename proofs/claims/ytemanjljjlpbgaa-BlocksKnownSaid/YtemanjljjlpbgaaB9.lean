/- Layer 10: silent -/
import Derived.Test.YtemanjljjlpbgaaB8
import Derived.Test.YtemanjljjlpbgaaSp11
namespace Go.Proofs.Ytemanjljjlpbgaa
open Go Go.Sp
attribute [local irreducible] J JL JO Ct

/-- Does the instruction k talk? (None does that is not there.) -/
def talksAt (xs : List Insn) (k : Int) : Bool := if 0 ≤ k then (match xs[k.toNat]? with | some x => talksB x.op | none => false) else false
/-- What one gets to from i, by those that do not talk, i in between not. -/
inductive Reach (xs : List Insn) (i : Int) : Int → Prop
  | one (t : Int) : t ∈ goesI xs i → Reach xs i t
  | more (k t : Int) : Reach xs i k → k ≠ i → talksAt xs k = false → t ∈ goesI xs k → Reach xs i t
/-- A round without one that talks. -/
def Bad (xs : List Insn) (i : Nat) : Prop := talksAt xs i = false ∧ Reach xs i i
open Classical in
noncomputable def firstOf (p : Nat → Prop) (n : Nat) : Int := match (List.range n).find? (fun i => decide (p i)) with | some i => (i : Int) | none => -1
theorem firstOf_hit {p : Nat → Prop} {n k : Nat} (hk : k < n) (hb : ∀ j, j < k → ¬ p j) (h : p k) : firstOf p n = (k : Int) := by
  have : (List.range n).find? (fun i => @decide (p i) (Classical.propDecidable _)) = some k := by
    rw [List.find?_range_eq_some]
    exact ⟨by simpa using h, by simpa using hk, fun j hj => by simpa using hb j hj⟩
  simp [firstOf, this]
theorem firstOf_none {p : Nat → Prop} {n : Nat} (hb : ∀ j, j < n → ¬ p j) : firstOf p n = -1 := by
  have : (List.range n).find? (fun i => @decide (p i) (Classical.propDecidable _)) = none := by
    rw [List.find?_eq_none]
    intro j hj
    simpa using hb j (by simpa using hj)
  simp [firstOf, this]
noncomputable def silentI (xs : List Insn) : Int := firstOf (Bad xs) xs.length

/-- All that goes from those not seen yet. -/
def load (xs : List Insn) : Nat → List Bool → Nat
  | 0, _ => 0
  | k + 1, se => load xs k se + (if (se[k]?).getD false then 0 else (goes xs k).length + 1)
theorem load_set (xs : List Insn) (se : List Bool) (i : Nat) (hi : i < se.length) (h : se[i]? = some false) : ∀ n, i < n → load xs n (se.set i true) + (goes xs i).length + 1 = load xs n se := by
  have keep : ∀ n, n ≤ i → load xs n (se.set i true) = load xs n se := by
    intro n
    induction n with
    | zero => intro _; rfl
    | succ n ih =>
      intro hn
      simp only [load, ih (by omega), List.getElem?_set_ne (show i ≠ n by omega)]
  intro n
  induction n with
  | zero => intro h; omega
  | succ n ih =>
    intro hin
    by_cases hni : n = i
    · subst hni
      simp only [load, keep n (Nat.le_refl _), List.getElem?_set_self hi, h, Option.getD_some, if_true, Bool.false_eq_true, if_false]
      omega
    · have := ih (by omega)
      simp only [load, List.getElem?_set_ne (show i ≠ n by omega)]
      omega
/-- The search's state: what was seen, and what is to do. -/
structure Srch (xs : List Insn) (i : Nat) (se : List Bool) (todo : List Int) : Prop where
  len : se.length = xs.length
  reach : ∀ t ∈ todo, Reach xs i t
  range : ∀ t ∈ todo, 0 ≤ t ∧ t < (xs.length : Int)
  closed0 : ∀ t ∈ goesI xs i, t ∈ todo ∨ (t ≠ i ∧ ((se[t.toNat]?).getD false = true ∨ talksAt xs t = true))
  closed : ∀ k : Nat, (se[k]?).getD false = true → ∀ t ∈ goesI xs k, t ∈ todo ∨ (t ≠ i ∧ ((se[t.toNat]?).getD false = true ∨ talksAt xs t = true))
/-- Each instruction goes to one of them. -/
def Inside (xs : List Insn) : Prop := ∀ k : Int, ∀ t ∈ goesI xs k, 0 ≤ t ∧ t < (xs.length : Int)
theorem Srch.start {xs : List Insn} {i : Nat} (hin : Inside xs) : Srch xs i (List.replicate xs.length false) (goesI xs i) where
  len := by simp
  reach := fun t h => .one t h
  range := fun t h => hin _ t h
  closed0 := fun t h => .inl h
  closed := fun k h => by
    rw [List.getElem?_replicate] at h
    split at h <;> simp at h
theorem Srch.done {xs : List Insn} {i : Nat} {se : List Bool} (h : Srch xs i se []) : ¬ Reach xs i i := by
  intro hr
  have key : ∀ t : Int, Reach xs i t → 0 ≤ t ∧ t ≠ i ∧ ((se[t.toNat]?).getD false = true ∨ talksAt xs t = true) ∨ t < 0 := by
    intro t ht
    by_cases h0 : 0 ≤ t
    · left
      refine ⟨h0, ?_⟩
      induction ht with
      | one t ht => exact (h.closed0 t ht).resolve_left (by simp)
      | more k t hk hki htk ht ih =>
        by_cases hk0 : 0 ≤ k
        · have h1 := (ih hk0).2
          rw [htk] at h1
          have h2 : (se[k.toNat]?).getD false = true := by simpa using h1
          refine (h.closed k.toNat h2 t ?_).resolve_left (by simp)
          rw [show ((k.toNat : Nat) : Int) = k by omega]; exact ht
        · simp [goesI, hk0] at ht
    · right; omega
  rcases key _ hr with h1 | h1
  · exact h1.2.1 rfl
  · omega
theorem Srch.skip {xs : List Insn} {i : Nat} {se : List Bool} {k : Int} {todo : List Int} (h : Srch xs i se (k :: todo)) (hk : k ≠ i) (hs : (se[k.toNat]?).getD false = true ∨ talksAt xs k = true) : Srch xs i se todo where
  len := h.len
  reach := fun t ht => h.reach t (by simp [ht])
  range := fun t ht => h.range t (by simp [ht])
  closed0 := fun t ht => by
    rcases h.closed0 t ht with h1 | h1
    · simp only [List.mem_cons] at h1
      rcases h1 with rfl | h1
      · exact .inr ⟨hk, hs⟩
      · exact .inl h1
    · exact .inr h1
  closed := fun j hj t ht => by
    rcases h.closed j hj t ht with h1 | h1
    · simp only [List.mem_cons] at h1
      rcases h1 with rfl | h1
      · exact .inr ⟨hk, hs⟩
      · exact .inl h1
    · exact .inr h1
theorem Srch.visit {xs : List Insn} {i : Nat} {se : List Bool} {k : Nat} {todo : List Int} (hin : Inside xs) (h : Srch xs i se ((k : Int) :: todo)) (hk : (k : Int) ≠ i) (hs : talksAt xs k = false) : Srch xs i (se.set k true) (todo ++ goesI xs k) := by
  have hkn : k < se.length := by have := h.range k (by simp); rw [h.len]; omega
  have key : ∀ t : Int, 0 ≤ t → (t ∈ (k : Int) :: todo ∨ (t ≠ i ∧ ((se[t.toNat]?).getD false = true ∨ talksAt xs t = true))) → t ∈ todo ++ goesI xs k ∨ (t ≠ i ∧ (((se.set k true)[t.toNat]?).getD false = true ∨ talksAt xs t = true)) := by
    intro t h0 ht
    by_cases htk : t = k
    · subst htk
      exact .inr ⟨hk, .inl (by simp [hkn])⟩
    · rcases ht with h1 | ⟨h1, h2⟩
      · simp only [List.mem_cons] at h1
        exact .inl (by simp [h1.resolve_left htk])
      · refine .inr ⟨h1, ?_⟩
        rw [List.getElem?_set_ne (by omega)]
        exact h2
  refine ⟨by rw [List.length_set]; exact h.len, ?_, ?_, fun t ht => key t (hin _ t ht).1 (h.closed0 t ht), ?_⟩
  · intro t ht
    rw [List.mem_append] at ht
    rcases ht with ht | ht
    · exact h.reach t (by simp [ht])
    · exact .more k t (h.reach k (by simp)) hk hs ht
  · intro t ht
    rw [List.mem_append] at ht
    rcases ht with ht | ht
    · exact h.range t (by simp [ht])
    · exact hin _ t ht
  · intro j hj t ht
    by_cases hjk : j = k
    · subst hjk
      exact .inl (by simp [ht])
    · rw [List.getElem?_set_ne (Ne.symm hjk)] at hj
      exact key t (hin _ t ht).1 (h.closed j hj t ht)
end Go.Proofs.Ytemanjljjlpbgaa
