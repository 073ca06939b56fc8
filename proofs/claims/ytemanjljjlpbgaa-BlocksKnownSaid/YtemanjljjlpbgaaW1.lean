/- Layer 10: how two given codes are cut -/
import Derived.Test.YtemanjljjlpbgaaB11
namespace Go.Proofs.Ytemanjljjlpbgaa
open Go Go.Sp
theorem not_reach {xs : List Insn} {i : Int} (S : List Int) (h0 : ∀ t ∈ goesI xs i, t ∈ S) (h1 : ∀ k ∈ S, k ≠ i → talksAt xs k = false → ∀ t ∈ goesI xs k, t ∈ S) (h2 : i ∉ S) : ¬ Reach xs i i := by
  intro h
  have key : ∀ t, Reach xs i t → t ∈ S := by
    intro t ht
    induction ht with
    | one t ht => exact h0 t ht
    | more k t _ hki htk ht ih => exact h1 k ih hki htk t ht
  exact h2 (key i h)
instance decWrong (xs : List Insn) (i : Nat) : Decidable (Wrong xs i) := match h : xs[i]? with
  | none => isFalse (fun ⟨x, hx, _⟩ => by rw [h] at hx; cases hx)
  | some x => if hb : rightB xs i x = false then isTrue ⟨x, h, hb⟩ else isFalse (fun ⟨y, hy, hr⟩ => by rw [h] at hy; cases hy; exact hb hr)
def codeA : List Insn := [⟨12, 0, 0, 0, 0, [2]⟩, ⟨24, 0, 0, 0, 0, []⟩, ⟨24, 0, 0, 0, 0, []⟩]
def codeB : List Insn := [⟨0, 0, 0, 0, 0, []⟩, ⟨11, 0, 0, 0, 0, [0]⟩]
theorem cutA : cutF codeA = ⟨[0, 1, 2], [[2, 1], [], []], -1, 0⟩ := by
  have hw : firstOf (Wrong codeA) codeA.length = -1 := firstOf_none (by decide)
  have hs : silentI codeA = -1 := by
    refine firstOf_none fun j hj => ?_
    have hj3 : j < 3 := hj
    have : j = 0 ∨ j = 1 ∨ j = 2 := by omega
    rcases this with rfl | rfl | rfl
    · exact fun h => not_reach [1, 2] (by decide) (by decide) (by decide) h.2
    · exact fun h => not_reach [] (by decide) (by decide) (by decide) h.2
    · exact fun h => not_reach [] (by decide) (by decide) (by decide) h.2
  unfold cutF
  rw [if_neg (by decide), hw, if_neg (by decide), if_neg (by decide), hs, if_neg (by decide)]
  rfl
theorem cutB : cutF codeB = ⟨[], [], 0, 14⟩ := by
  have hw : firstOf (Wrong codeB) codeB.length = -1 := firstOf_none (by decide)
  have hs : silentI codeB = 0 := by
    refine firstOf_hit (k := 0) (by decide) (fun j hj => by omega) ⟨by decide, ?_⟩
    exact .more 1 0 (.one 1 (by decide)) (by decide) (by decide) (by decide)
  unfold cutF
  rw [if_neg (by decide), hw, if_neg (by decide), if_neg (by decide), hs, if_pos (by decide)]
end Go.Proofs.Ytemanjljjlpbgaa
