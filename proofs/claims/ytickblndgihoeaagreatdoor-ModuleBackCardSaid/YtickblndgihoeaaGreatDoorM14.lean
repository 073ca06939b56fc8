/- Layer 9: the document's check. -/
import Derived.Test.YtickblndgihoeaaGreatDoorM13
import Derived.Test.YtickblndgihoeaaGreatDoorM7
namespace Go.Proofs.YtickblndgihoeaaGreatDoor
open Go Go.Sp
attribute [local irreducible] callFunc Go.method J JL JO JR JR1 JRl Ct JG JM JM1 JW JW1 JQ JQ0 JS CtD LeavesQ ints
theorem dec_bP {p q : Prop} {_ : Decidable p} (h : p ↔ q) : decide p = bP q := by
  by_cases hp : p
  · rw [decide_eq_true hp]; exact bP_t (h.1 hp)
  · rw [decide_eq_false hp]; exact bP_f (fun hq => hp (h.2 hq))
theorem L0 {least most : Nat} {un : Bool} {rl : Int} {l : List Int} (h1 : least = 0) (h2 : most = 0) : decide ((l.length : Int) = 0) = bP ((least ≤ l.length ∧ l.length ≤ most) ∧ okL un rl l) :=
  dec_bP (by
    subst h1 h2
    constructor
    · intro h
      exact ⟨by omega, fun i hi => absurd hi (by omega)⟩
    · intro h
      omega)
attribute [local irreducible] okL fitsP chkA rowC
end Go.Proofs.YtickblndgihoeaaGreatDoor
