/- Layer 9: the document's bytes of an instruction. -/
import Derived.Test.YtickblndgihoeaaGreatDoorM15
import Derived.Test.YtickblndgihoeaaGreatDoorM7
import Derived.Test.YtickblndgihoeaaGreatDoorM14
namespace Go.Proofs.YtickblndgihoeaaGreatDoor
open Go Go.Sp
theorem row_d {n : Nat} (h : n ≤ 24) (h2 : n ≠ 20) : (rowOf n).1.d = -1 := by
  match n, h with
  | 0, _ => first | rfl | exact absurd rfl h2
  | 1, _ => first | rfl | exact absurd rfl h2
  | 2, _ => first | rfl | exact absurd rfl h2
  | 3, _ => first | rfl | exact absurd rfl h2
  | 4, _ => first | rfl | exact absurd rfl h2
  | 5, _ => first | rfl | exact absurd rfl h2
  | 6, _ => first | rfl | exact absurd rfl h2
  | 7, _ => first | rfl | exact absurd rfl h2
  | 8, _ => first | rfl | exact absurd rfl h2
  | 9, _ => first | rfl | exact absurd rfl h2
  | 10, _ => first | rfl | exact absurd rfl h2
  | 11, _ => first | rfl | exact absurd rfl h2
  | 12, _ => first | rfl | exact absurd rfl h2
  | 13, _ => first | rfl | exact absurd rfl h2
  | 14, _ => first | rfl | exact absurd rfl h2
  | 15, _ => first | rfl | exact absurd rfl h2
  | 16, _ => first | rfl | exact absurd rfl h2
  | 17, _ => first | rfl | exact absurd rfl h2
  | 18, _ => first | rfl | exact absurd rfl h2
  | 19, _ => first | rfl | exact absurd rfl h2
  | 20, _ => first | rfl | exact absurd rfl h2
  | 21, _ => first | rfl | exact absurd rfl h2
  | 22, _ => first | rfl | exact absurd rfl h2
  | 23, _ => first | rfl | exact absurd rfl h2
  | 24, _ => first | rfl | exact absurd rfl h2
  | k + 25, h => omega
theorem row_plain {n : Nat} (h : n ≤ 24) (hp : (rowOf n).2 = true) : (rowOf n).1 = ⟨false, -1, -1, -1, -1, 0, 0, false⟩ := by
  match n, h with
  | 0, _ => first | rfl | cases hp
  | 1, _ => first | rfl | cases hp
  | 2, _ => first | rfl | cases hp
  | 3, _ => first | rfl | cases hp
  | 4, _ => first | rfl | cases hp
  | 5, _ => first | rfl | cases hp
  | 6, _ => first | rfl | cases hp
  | 7, _ => first | rfl | cases hp
  | 8, _ => first | rfl | cases hp
  | 9, _ => first | rfl | cases hp
  | 10, _ => first | rfl | cases hp
  | 11, _ => first | rfl | cases hp
  | 12, _ => first | rfl | cases hp
  | 13, _ => first | rfl | cases hp
  | 14, _ => first | rfl | cases hp
  | 15, _ => first | rfl | cases hp
  | 16, _ => first | rfl | cases hp
  | 17, _ => first | rfl | cases hp
  | 18, _ => first | rfl | cases hp
  | 19, _ => first | rfl | cases hp
  | 20, _ => first | rfl | cases hp
  | 21, _ => first | rfl | cases hp
  | 22, _ => first | rfl | cases hp
  | 23, _ => first | rfl | cases hp
  | 24, _ => first | rfl | cases hp
  | k + 25, h => omega
theorem row_whole {n : Nat} (h : n ≤ 24) (h1 : n ≠ 1) : (rowOf n).1.whole = false := by
  match n, h with
  | 0, _ => first | rfl | exact absurd rfl h1
  | 1, _ => first | rfl | exact absurd rfl h1
  | 2, _ => first | rfl | exact absurd rfl h1
  | 3, _ => first | rfl | exact absurd rfl h1
  | 4, _ => first | rfl | exact absurd rfl h1
  | 5, _ => first | rfl | exact absurd rfl h1
  | 6, _ => first | rfl | exact absurd rfl h1
  | 7, _ => first | rfl | exact absurd rfl h1
  | 8, _ => first | rfl | exact absurd rfl h1
  | 9, _ => first | rfl | exact absurd rfl h1
  | 10, _ => first | rfl | exact absurd rfl h1
  | 11, _ => first | rfl | exact absurd rfl h1
  | 12, _ => first | rfl | exact absurd rfl h1
  | 13, _ => first | rfl | exact absurd rfl h1
  | 14, _ => first | rfl | exact absurd rfl h1
  | 15, _ => first | rfl | exact absurd rfl h1
  | 16, _ => first | rfl | exact absurd rfl h1
  | 17, _ => first | rfl | exact absurd rfl h1
  | 18, _ => first | rfl | exact absurd rfl h1
  | 19, _ => first | rfl | exact absurd rfl h1
  | 20, _ => first | rfl | exact absurd rfl h1
  | 21, _ => first | rfl | exact absurd rfl h1
  | 22, _ => first | rfl | exact absurd rfl h1
  | 23, _ => first | rfl | exact absurd rfl h1
  | 24, _ => first | rfl | exact absurd rfl h1
  | k + 25, h => omega
theorem bytes_of {n : Nat} {x : Ins} (h : n ≤ 24) (hx : x.op = (n : Int)) (h1 : n ≠ 1) (hl : x.l.length ≤ (rowOf n).1.most) : bytesL (rowOf n) x = (((([UInt8.ofNat n] ++ optL (rowOf n).1.b x.b) ++ optL (rowOf n).1.c x.c) ++ optL (rowOf n).1.d x.d) ++ (if ((rowOf n).1.least : Int) < ((rowOf n).1.most : Int) then encU x.l.length else [])) ++ x.l.flatMap encI := by
  unfold bytesL
  rw [hx, Int.toNat_natCast, row_whole h h1]
  by_cases hp : (rowOf n).2 = true
  · rw [row_plain h hp] at hl ⊢
    have : x.l = [] := List.length_eq_zero_iff.1 (by simpa using hl)
    rw [if_pos hp, this]
    simp [optL]
  · rw [if_neg hp]
    simp
theorem bytes_one {x : Ins} (hx : x.op = ((1 : Nat) : Int)) (hl : x.l.length ≤ (rowOf 1).1.most) : bytesL (rowOf 1) x = [UInt8.ofNat 1] ++ encU (foldZ x.a) := by
  have : x.l = [] := List.length_eq_zero_iff.1 (by simpa [rowOf] using hl)
  unfold bytesL
  rw [hx, this]
  simp [rowOf, optL]
attribute [local irreducible] callFunc Go.method J JL JO JR JR1 JRl Ct JG JM JM1 JW JW1 JQ JQ0 JS CtD LeavesQ ints fitsP chkA by8 Fact
end Go.Proofs.YtickblndgihoeaaGreatDoor
