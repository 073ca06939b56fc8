/- Layer 11: ModuleBack's walk. -/
import Derived.Test.YtickblndgihoeaaGreatDoorM38
import Derived.Test.YtickblndgihoeaaGreatDoorM5
import Derived.Test.YtickblndgihoeaaGreatDoorM46
namespace Go.Proofs.YtickblndgihoeaaGreatDoor
open Go Go.Sp
theorem taken_small {s : List UInt8} {m0 m : Mdl} {bs : List UInt8} {pl : Int} (h : wZ s = .ok m0 bs pl) (hs : SameM m m0) : smallM m ∧ BndM m := by
  obtain ⟨x,y,z,_,_,h1,h2,h3,_⟩ := taken_inv h
  obtain ⟨e1,e2,e3⟩ := same_secs hs
  exact sec_small (e1.trans h1) (e2.trans h2) (e3.trans h3)
attribute [local irreducible] callFunc Go.method J JL JO JR JR1 JRl Ct JG JM JM1 JW JW1 JQ JQ0 JS CtD xB ints by8 chkA tJ yB uK RawR wZ temO wJ staO sec1O sec2O sec3O tB RdB ibits AscI
end Go.Proofs.YtickblndgihoeaaGreatDoor
