/- Layer 9: the document reads an op's operands. -/
import Derived.Test.YtickblndgihoeaaGreatDoorM11
namespace Go.Proofs.YtickblndgihoeaaGreatDoor
open Go Go.Sp
theorem natI_len {l : List Nat} : (natI l).length = l.length := by simp [natI]
theorem op_S {un : Bool} {o : Nat} {bs : List UInt8} {pl : Int} : vI ⟨true,-1,-1,-1,-1,0,0,un⟩ o bs pl = if (uA bs pl).c ≠ 0 then errR (uA bs pl).c (uA bs pl).a (uA bs pl).rest (uA bs pl).pl else ⟨⟨o,uR (uA bs pl).n,0,0,0,[]⟩,0,0,(uA bs pl).rest,(uA bs pl).pl⟩ := by simp [vI]
attribute [local irreducible] callFunc Go.method J JL JO JR JR1 JRl Ct JG JM JM1 JW JW1 JQ JQ0 JS CtD yW ints RdB Er uA smA by8 listA cntA natI
end Go.Proofs.YtickblndgihoeaaGreatDoor
