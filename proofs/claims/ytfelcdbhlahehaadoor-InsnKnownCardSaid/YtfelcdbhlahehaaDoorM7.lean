/- Layer 9: the document reads an op's operands. -/
import Derived.Test.YtfelcdbhlahehaaDoorM6
namespace Go.Proofs.YtfelcdbhlahehaaDoor
open Go Go.Sp
theorem op_S {un : Bool} {o : Nat} {bs : List UInt8} {pl : Int} : operK ⟨true, -1, -1, -1, -1, 0, 0, un⟩ o bs pl = if (uA bs pl).c ≠ 0 then errR (uA bs pl).c (uA bs pl).a (uA bs pl).rest (uA bs pl).pl else ⟨⟨o, unfoldZ (uA bs pl).n, 0, 0, 0, []⟩, 0, 0, (uA bs pl).rest, (uA bs pl).pl⟩ := by simp [operK]
attribute [local irreducible] callFunc Go.method J JL JO Ct JG JM JW JW1 JQ JQ0 JS CtD LeavesQ ints RdB Er uA smA by8 listA cntA natI
end Go.Proofs.YtfelcdbhlahehaaDoor
