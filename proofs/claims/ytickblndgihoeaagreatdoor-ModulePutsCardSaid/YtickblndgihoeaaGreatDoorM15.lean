/- Layer 9: the document reads an instruction. -/
import Derived.Test.YtickblndgihoeaaGreatDoorM13
import Derived.Test.YtickblndgihoeaaGreatDoorM14
namespace Go.Proofs.YtickblndgihoeaaGreatDoor
open Go Go.Sp
theorem oper_a {r : Row} {o : Nat} {bs : List UInt8} {pl : Int} : (vI r o bs pl).c = 0 → (vI r o bs pl).a = 0 := by
  have hs : ∀ (most : Int) (k : Nat → RK),(∀ n bs pl,(k n bs pl).c = 0 → (k n bs pl).a = 0) → ∀ bs pl,(smallK most k bs pl).c = 0 → (smallK most k bs pl).a = 0 := fun most k hk bs pl => by
    unfold smallK
    split
    · rename_i h;intro h2;exact absurd h2 h
    · exact hk _ _ _
  have ho : ∀ (m : Int) (k : Int → RK),(∀ n bs pl,(k n bs pl).c = 0 → (k n bs pl).a = 0) → ∀ bs pl,(optK m k bs pl).c = 0 → (optK m k bs pl).a = 0 := fun m k hk bs pl => by
    by_cases h : m = -1
    · rw [optK_none h];exact hk _ _ _
    · rw [optK_some h];exact hs _ _ (fun n => hk n) bs pl
  have hl : ∀ (m : Int) (k : List Nat → RK),(∀ n bs pl,(k n bs pl).c = 0 → (k n bs pl).a = 0) → ∀ n acc bs pl,(listK n m acc k bs pl).c = 0 → (listK n m acc k bs pl).a = 0 := fun m k hk n => by
    induction n with
    | zero => intro acc bs pl;exact hk _ _ _
    | succ n ih => intro acc bs pl;exact hs _ _ (fun z bs pl => ih _ bs pl) bs pl
  unfold vI
  split
  · split
    · rename_i h;intro h2;exact absurd h2 h
    · intro _;rfl
  · refine ho _ _ (fun b => ho _ _ (fun c => ho _ _ (fun d bs pl => ?_))) bs pl
    unfold manyK
    split
    · exact hs _ _ (fun n bs pl => hl _ _ (fun _ _ _ _ => rfl) n [] bs pl) bs pl
    · exact hl _ _ (fun _ _ _ _ => rfl) _ [] bs pl
theorem ins_one {x : Ins} {v : Value} (h : v.oneCell' = true) : ∀ u ∈ insC x v,u.oneCell' = true := by
  intro u hu
  simp only [insC,List.mem_cons,List.not_mem_nil,or_false] at hu
  rcases hu with rfl | rfl | rfl | rfl | rfl | rfl <;> first | rfl|exact h
attribute [local irreducible] callFunc Go.method J JL JO JR JR1 JRl Ct JG JM JM1 JW JW1 JQ JQ0 JS CtD yW zM ints RdB Er uA smA by8 vI tA vZ
end Go.Proofs.YtickblndgihoeaaGreatDoor
