/- Layer 3: the document splits (under way). -/
import Derived.Test.YtickblndgihoeaaGreatDoorM27
namespace Go.Proofs.YtickblndgihoeaaGreatDoor
open Go Go.Sp
attribute [local irreducible] callFunc Go.method J JL JO Ct JG JM JM1 JQ JQ0 JS CtD yW RdB Er by8 uA ibits smA PtR k1A stage uT
end Go.Proofs.YtickblndgihoeaaGreatDoor
