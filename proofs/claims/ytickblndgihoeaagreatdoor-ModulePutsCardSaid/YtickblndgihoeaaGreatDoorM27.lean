/- Layer 3: the document splits: a part; the head. -/
import Derived.Test.YtickblndgihoeaaGreatDoorM26
import Derived.Test.YtickblndgihoeaaGreatDoorM18
import Derived.Test.YtickblndgihoeaaGreatDoorM5
namespace Go.Proofs.YtickblndgihoeaaGreatDoor
open Go Go.Sp
end Go.Proofs.YtickblndgihoeaaGreatDoor
