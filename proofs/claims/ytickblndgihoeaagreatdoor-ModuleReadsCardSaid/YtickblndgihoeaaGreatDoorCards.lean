/-
  DERIVED. GIVEN WITH THE SEED: THE CARDS: each row of YtickblndgihoeaaGreatDoorRows.lean that lists a variable, with what it lists TIED to the program's text (the seventh form; the later family's looks); each row that meets fmt, with fmt's text TOLD by the authors' own Lean function (tested against real Go, not proved from fmt's source: count such statements apart). THE CARD IS WHAT COUNTS. Prove the row's statement (the work); the ties are given (YtickblndgihoeaaGreatDoorTie.lean); close each card by the builder's one call (the guide's Derived/Test/ToyasCard.lean, 'card_holds'). Laid BY PROGRAM, IN A SANDBOX (cutbox-door.mjs). By AI agents, Wed Nov 11 2026. No macro, syntax, notation, axiom, sorry.
-/
import Derived.Test.YtickblndgihoeaaGreatDoorRows
import GoSem.ClaimSeven
namespace Go.Proofs.YtickblndgihoeaaGreatDoor
namespace Rows

/-- THE TIED CARD OF 'colloquylaw11.ModulePuts'. -/
def modulePutsCard : Claim7 := { stood := { row := modulePutsRow, standIns := [], harness := (true, "f400d1bb43670c56478551c4adf04f4f9d1aa5bcba4c0256bbf91067f7197d1b"), looks := true }, kinds := [], alts := [], laidByText := true, laidKinds := [.handle], laidTests := true, laidLooks := .later }
def ModulePutsCardSaid : Prop := Claim7.holds Tryz.pinned (.plain (OpenSpec.ofChange modulePutsSpec)) modulePutsCard

/-- THE TIED CARD OF 'colloquylaw11.ModuleReads'. -/
def moduleReadsCard : Claim7 := { stood := { row := moduleReadsRow, standIns := [], harness := (true, "f400d1bb43670c56478551c4adf04f4f9d1aa5bcba4c0256bbf91067f7197d1b"), looks := true }, kinds := [], alts := [], laidByText := true, laidKinds := [.handle], laidTests := true, laidLooks := .later }
def ModuleReadsCardSaid : Prop := Claim7.holds Tryz.pinned (.plain (OpenSpec.ofChange moduleReadsSpec)) moduleReadsCard

/-- THE TIED CARD OF 'colloquylaw11.ModuleBack'. -/
def moduleBackCard : Claim7 := { stood := { row := moduleBackRow, standIns := [], harness := (true, "f400d1bb43670c56478551c4adf04f4f9d1aa5bcba4c0256bbf91067f7197d1b"), looks := true }, kinds := [], alts := [], laidByText := true, laidKinds := [.handle], laidTests := true, laidLooks := .later }
def ModuleBackCardSaid : Prop := Claim7.holds Tryz.pinned (.plain (OpenSpec.ofChange moduleBackSpec)) moduleBackCard

/-- THE TIED CARD OF 'colloquylaw11.ModuleKnown'. -/
def moduleKnownCard : Claim7 := { stood := { row := moduleKnownRow, standIns := [], harness := (true, "f400d1bb43670c56478551c4adf04f4f9d1aa5bcba4c0256bbf91067f7197d1b"), looks := true }, kinds := [], alts := [], laidByText := true, laidKinds := [.handle], laidTests := true, laidLooks := .later }
def ModuleKnownCardSaid : Prop := Claim7.holds Tryz.pinned (.plain (OpenSpec.ofChange moduleKnownSpec)) moduleKnownCard

/-- THE TIED CARD OF 'colloquylaw11.ModuleParts'. -/
def modulePartsCard : Claim7 := { stood := { row := modulePartsRow, standIns := [], harness := (true, "f400d1bb43670c56478551c4adf04f4f9d1aa5bcba4c0256bbf91067f7197d1b"), looks := true }, kinds := [], alts := [], laidByText := true, laidKinds := [.handle], laidTests := true, laidLooks := .later }
def ModulePartsCardSaid : Prop := Claim7.holds Tryz.pinned (.plain (OpenSpec.ofChange modulePartsSpec)) modulePartsCard

/-- THE SECOND FORM's CARD OF 'colloquylaw11.ModulePuts'. -/
def modulePutsUptoCard : Claim7 := { stood := { row := modulePutsUptoRow, standIns := [], harness := (true, "f400d1bb43670c56478551c4adf04f4f9d1aa5bcba4c0256bbf91067f7197d1b"), looks := true }, kinds := [], alts := [], laidByText := true, laidKinds := [.handle], laidTests := true, laidLooks := .later }
def ModulePutsUptoCardSaid : Prop := Claim7.holds Tryz.pinned (.plain (OpenSpec.upto modulePutsSpec)) modulePutsUptoCard

/-- THE SECOND FORM's CARD OF 'colloquylaw11.ModuleReads'. -/
def moduleReadsUptoCard : Claim7 := { stood := { row := moduleReadsUptoRow, standIns := [], harness := (true, "f400d1bb43670c56478551c4adf04f4f9d1aa5bcba4c0256bbf91067f7197d1b"), looks := true }, kinds := [], alts := [], laidByText := true, laidKinds := [.handle], laidTests := true, laidLooks := .later }
def ModuleReadsUptoCardSaid : Prop := Claim7.holds Tryz.pinned (.plain (OpenSpec.upto moduleReadsSpec)) moduleReadsUptoCard

/-- THE SECOND FORM's CARD OF 'colloquylaw11.ModuleBack'. -/
def moduleBackUptoCard : Claim7 := { stood := { row := moduleBackUptoRow, standIns := [], harness := (true, "f400d1bb43670c56478551c4adf04f4f9d1aa5bcba4c0256bbf91067f7197d1b"), looks := true }, kinds := [], alts := [], laidByText := true, laidKinds := [.handle], laidTests := true, laidLooks := .later }
def ModuleBackUptoCardSaid : Prop := Claim7.holds Tryz.pinned (.plain (OpenSpec.upto moduleBackSpec)) moduleBackUptoCard

/-- THE SECOND FORM's CARD OF 'colloquylaw11.ModuleKnown'. -/
def moduleKnownUptoCard : Claim7 := { stood := { row := moduleKnownUptoRow, standIns := [], harness := (true, "f400d1bb43670c56478551c4adf04f4f9d1aa5bcba4c0256bbf91067f7197d1b"), looks := true }, kinds := [], alts := [], laidByText := true, laidKinds := [.handle], laidTests := true, laidLooks := .later }
def ModuleKnownUptoCardSaid : Prop := Claim7.holds Tryz.pinned (.plain (OpenSpec.upto moduleKnownSpec)) moduleKnownUptoCard

/-- THE SECOND FORM's CARD OF 'colloquylaw11.ModuleParts'. -/
def modulePartsUptoCard : Claim7 := { stood := { row := modulePartsUptoRow, standIns := [], harness := (true, "f400d1bb43670c56478551c4adf04f4f9d1aa5bcba4c0256bbf91067f7197d1b"), looks := true }, kinds := [], alts := [], laidByText := true, laidKinds := [.handle], laidTests := true, laidLooks := .later }
def ModulePartsUptoCardSaid : Prop := Claim7.holds Tryz.pinned (.plain (OpenSpec.upto modulePartsSpec)) modulePartsUptoCard
end Rows
end Go.Proofs.YtickblndgihoeaaGreatDoor
