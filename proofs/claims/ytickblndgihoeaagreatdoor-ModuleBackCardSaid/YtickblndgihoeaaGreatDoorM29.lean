/- Layer 3: the document joins. -/
import Derived.Test.YtickblndgihoeaaGreatDoorM28
import Derived.Test.YtickblndgihoeaaGreatDoorM19
import Derived.Test.YtickblndgihoeaaGreatDoorM5
namespace Go.Proofs.YtickblndgihoeaaGreatDoor
open Go Go.Sp
attribute [local irreducible] callFunc Go.method J JL JO JR JR1 JRl Ct JG JM JM1 JQ JQ0 JS CtD LeavesQ WrB by8 uA ibits stage Fact
end Go.Proofs.YtickblndgihoeaaGreatDoor
