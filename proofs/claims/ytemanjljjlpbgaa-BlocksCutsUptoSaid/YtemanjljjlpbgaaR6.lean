/- Layer 10: a code's front part; BlocksGoes' walk -/
import Derived.Test.YtemanjljjlpbgaaR5
import Derived.Test.YtemanjljjlpbgaaSp16
namespace Go.Proofs.Ytemanjljjlpbgaa
open Go Go.Sp
attribute [local irreducible] J JL JO Ct JA JA1 JH JQ JG
theorem zip_take {α β : Type} : ∀ (xs : List α) (ys : List β) (n : Nat), (xs.take n).zip (ys.take n) = (xs.zip ys).take n
  | [], _, n => by simp
  | _ :: _, [], n => by simp
  | x :: xs, y :: ys, 0 => rfl
  | x :: xs, y :: ys, n + 1 => by simp [zip_take xs ys n]
theorem vcode_take {p : Option Addr} {cap : Nat} {xs : List Insn} {n : Nat} (hn : n ≤ xs.length) (k : Part) (h : VCode (.slice p xs.length cap) xs k) : VCode (.slice p n cap) (xs.take n) k := by
  obtain ⟨lvs, h1, ⟨h2, h3, p', cap', h4, h5⟩, h6⟩ := h
  cases h4
  have hl : (xs.take n).length = n := by simp [hn]
  have hll : (lvs.take n).length = n := by simp; omega
  refine ⟨lvs.take n, by omega, ⟨?_, by omega, p, cap, by rw [hl], ?_⟩, fun i x lv hx hlv => ?_⟩
  · rw [length_flat length_insnCells, List.length_zip, hl, hll]; simp
  · rw [hl]
    by_cases h0 : n = 0
    · exact .inl h0
    · right
      obtain ⟨b, o, all, e, fz, h7, h8, h9⟩ := h5.resolve_left (by omega)
      refine ⟨b, o, all, e, fz, h7, h8, fun i u hu => h9 i u ?_⟩
      rw [zip_take] at hu
      rw [← List.take_append_drop n (xs.zip lvs), List.flatMap_append, List.getElem?_append_left (List.getElem?_eq_some_iff.1 hu).1]
      exact hu
  · rw [List.getElem?_take] at hx hlv
    split at hx
    · rename_i hi
      rw [if_pos hi] at hlv
      exact h6 i x lv hx hlv
    · cases hx
theorem small_take {xs : List Insn} (h : Small xs) (n : Nat) : Small (xs.take n) := fun x hx => h x (List.mem_of_mem_take hx)
theorem goesI_len {xs : List Insn} (hs : Small xs) (i : Int) : (goesI xs i).length ≤ 4611686018427387904 := by
  unfold goesI
  split
  · cases hx : xs[i.toNat]? with
    | none => simp [goes, hx]
    | some x =>
      have h1 := goes_le xs _ x hx
      have h2 := hs x (List.mem_of_getElem? hx)
      omega
  · simp
end Go.Proofs.Ytemanjljjlpbgaa
