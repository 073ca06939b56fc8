/-
  DERIVED. GIVEN WITH THE SEED: THE CARDS: each row of YtfelcdbhlahehaaDoorRows.lean that lists a variable, with what it lists TIED to the program's text (the seventh form; the later family's looks); each row that meets fmt, with fmt's text TOLD by the authors' own Lean function (tested against real Go, not proved from fmt's source: count such statements apart). THE CARD IS WHAT COUNTS. Prove the row's statement (the work); the ties are given (YtfelcdbhlahehaaDoorTie.lean); close each card by the builder's one call (the guide's Derived/Test/ToyasCard.lean, 'card_holds'). Laid BY PROGRAM, IN A SANDBOX (cutbox-door.mjs). By AI agents, Wed Nov 11 2026. No macro, syntax, notation, axiom, sorry.
-/
import Derived.Test.YtfelcdbhlahehaaDoorRows
import GoSem.ClaimSeven
namespace Go.Proofs.YtfelcdbhlahehaaDoor
namespace Rows

/-- THE TIED CARD OF 'colloquylaw03.SectSplits'. -/
def sectSplitsCard : Claim7 := { stood := { row := sectSplitsRow, standIns := [], harness := (true, "ebd85bfdb491ff96fc2e89a0e134024dc1b9a48542b544f540d287cdb2044378"), looks := true }, kinds := [], alts := [], laidByText := true, laidKinds := [.handle], laidTests := true, laidLooks := .later }
def SectSplitsCardSaid : Prop := Claim7.holds Tryd.pinned (.plain (OpenSpec.ofChange sectSplitsSpec)) sectSplitsCard

/-- THE TIED CARD OF 'colloquylaw03.SectJoins'. -/
def sectJoinsCard : Claim7 := { stood := { row := sectJoinsRow, standIns := [], harness := (true, "ebd85bfdb491ff96fc2e89a0e134024dc1b9a48542b544f540d287cdb2044378"), looks := true }, kinds := [], alts := [], laidByText := true, laidKinds := [.handle], laidTests := true, laidLooks := .later }
def SectJoinsCardSaid : Prop := Claim7.holds Tryd.pinned (.plain (OpenSpec.ofChange sectJoinsSpec)) sectJoinsCard

/-- THE TIED CARD OF 'colloquylaw03.SectBack'. -/
def sectBackCard : Claim7 := { stood := { row := sectBackRow, standIns := [], harness := (true, "ebd85bfdb491ff96fc2e89a0e134024dc1b9a48542b544f540d287cdb2044378"), looks := true }, kinds := [], alts := [], laidByText := true, laidKinds := [.handle], laidTests := true, laidLooks := .later }
def SectBackCardSaid : Prop := Claim7.holds Tryd.pinned (.plain (OpenSpec.ofChange sectBackSpec)) sectBackCard

/-- THE TIED CARD OF 'colloquylaw03.SectCuts'. -/
def sectCutsCard : Claim7 := { stood := { row := sectCutsRow, standIns := [], harness := (true, "ebd85bfdb491ff96fc2e89a0e134024dc1b9a48542b544f540d287cdb2044378"), looks := true }, kinds := [], alts := [], laidByText := true, laidKinds := [.handle], laidTests := true, laidLooks := .later }
def SectCutsCardSaid : Prop := Claim7.holds Tryd.pinned (.plain (OpenSpec.ofChange sectCutsSpec)) sectCutsCard

/-- THE TIED CARD OF 'colloquylaw03.SectKnown'. -/
def sectKnownCard : Claim7 := { stood := { row := sectKnownRow, standIns := [], harness := (true, "ebd85bfdb491ff96fc2e89a0e134024dc1b9a48542b544f540d287cdb2044378"), looks := true }, kinds := [], alts := [], laidByText := true, laidKinds := [.handle], laidTests := true, laidLooks := .later }
def SectKnownCardSaid : Prop := Claim7.holds Tryd.pinned (.plain (OpenSpec.ofChange sectKnownSpec)) sectKnownCard

/-- THE TIED CARD OF 'colloquylaw09.InsnReads'. -/
def insnReadsCard : Claim7 := { stood := { row := insnReadsRow, standIns := [], harness := (true, "ebd85bfdb491ff96fc2e89a0e134024dc1b9a48542b544f540d287cdb2044378"), looks := true }, kinds := [], alts := [], laidByText := true, laidKinds := [.handle], laidTests := true, laidLooks := .later }
def InsnReadsCardSaid : Prop := Claim7.holds Tryd.pinned (.plain (OpenSpec.ofChange insnReadsSpec)) insnReadsCard

/-- THE TIED CARD OF 'colloquylaw09.InsnCuts'. -/
def insnCutsCard : Claim7 := { stood := { row := insnCutsRow, standIns := [], harness := (true, "ebd85bfdb491ff96fc2e89a0e134024dc1b9a48542b544f540d287cdb2044378"), looks := true }, kinds := [], alts := [], laidByText := true, laidKinds := [.handle], laidTests := true, laidLooks := .later }
def InsnCutsCardSaid : Prop := Claim7.holds Tryd.pinned (.plain (OpenSpec.ofChange insnCutsSpec)) insnCutsCard

/-- THE TIED CARD OF 'colloquylaw09.InsnKnown'. -/
def insnKnownCard : Claim7 := { stood := { row := insnKnownRow, standIns := [], harness := (true, "ebd85bfdb491ff96fc2e89a0e134024dc1b9a48542b544f540d287cdb2044378"), looks := true }, kinds := [], alts := [], laidByText := true, laidKinds := [.handle], laidTests := true, laidLooks := .later }
def InsnKnownCardSaid : Prop := Claim7.holds Tryd.pinned (.plain (OpenSpec.ofChange insnKnownSpec)) insnKnownCard

/-- THE TIED CARD OF 'colloquylaw09.InsnBack'. -/
def insnBackCard : Claim7 := { stood := { row := insnBackRow, standIns := [], harness := (true, "ebd85bfdb491ff96fc2e89a0e134024dc1b9a48542b544f540d287cdb2044378"), looks := true }, kinds := [], alts := [], laidByText := true, laidKinds := [.handle], laidTests := true, laidLooks := .later }
def InsnBackCardSaid : Prop := Claim7.holds Tryd.pinned (.plain (OpenSpec.ofChange insnBackSpec)) insnBackCard

/-- THE TIED CARD OF 'colloquylaw09.InsnPuts'. -/
def insnPutsCard : Claim7 := { stood := { row := insnPutsRow, standIns := [], harness := (true, "ebd85bfdb491ff96fc2e89a0e134024dc1b9a48542b544f540d287cdb2044378"), looks := true }, kinds := [], alts := [], laidByText := true, laidKinds := [.handle], laidTests := true, laidLooks := .later }
def InsnPutsCardSaid : Prop := Claim7.holds Tryd.pinned (.plain (OpenSpec.ofChange insnPutsSpec)) insnPutsCard

/-- THE SECOND FORM's CARD OF 'colloquylaw03.SectSplits'. -/
def sectSplitsUptoCard : Claim7 := { stood := { row := sectSplitsUptoRow, standIns := [], harness := (true, "ebd85bfdb491ff96fc2e89a0e134024dc1b9a48542b544f540d287cdb2044378"), looks := true }, kinds := [], alts := [], laidByText := true, laidKinds := [.handle], laidTests := true, laidLooks := .later }
def SectSplitsUptoCardSaid : Prop := Claim7.holds Tryd.pinned (.plain (OpenSpec.upto sectSplitsSpec)) sectSplitsUptoCard

/-- THE SECOND FORM's CARD OF 'colloquylaw03.SectJoins'. -/
def sectJoinsUptoCard : Claim7 := { stood := { row := sectJoinsUptoRow, standIns := [], harness := (true, "ebd85bfdb491ff96fc2e89a0e134024dc1b9a48542b544f540d287cdb2044378"), looks := true }, kinds := [], alts := [], laidByText := true, laidKinds := [.handle], laidTests := true, laidLooks := .later }
def SectJoinsUptoCardSaid : Prop := Claim7.holds Tryd.pinned (.plain (OpenSpec.upto sectJoinsSpec)) sectJoinsUptoCard

/-- THE SECOND FORM's CARD OF 'colloquylaw03.SectBack'. -/
def sectBackUptoCard : Claim7 := { stood := { row := sectBackUptoRow, standIns := [], harness := (true, "ebd85bfdb491ff96fc2e89a0e134024dc1b9a48542b544f540d287cdb2044378"), looks := true }, kinds := [], alts := [], laidByText := true, laidKinds := [.handle], laidTests := true, laidLooks := .later }
def SectBackUptoCardSaid : Prop := Claim7.holds Tryd.pinned (.plain (OpenSpec.upto sectBackSpec)) sectBackUptoCard

/-- THE SECOND FORM's CARD OF 'colloquylaw03.SectCuts'. -/
def sectCutsUptoCard : Claim7 := { stood := { row := sectCutsUptoRow, standIns := [], harness := (true, "ebd85bfdb491ff96fc2e89a0e134024dc1b9a48542b544f540d287cdb2044378"), looks := true }, kinds := [], alts := [], laidByText := true, laidKinds := [.handle], laidTests := true, laidLooks := .later }
def SectCutsUptoCardSaid : Prop := Claim7.holds Tryd.pinned (.plain (OpenSpec.upto sectCutsSpec)) sectCutsUptoCard

/-- THE SECOND FORM's CARD OF 'colloquylaw03.SectKnown'. -/
def sectKnownUptoCard : Claim7 := { stood := { row := sectKnownUptoRow, standIns := [], harness := (true, "ebd85bfdb491ff96fc2e89a0e134024dc1b9a48542b544f540d287cdb2044378"), looks := true }, kinds := [], alts := [], laidByText := true, laidKinds := [.handle], laidTests := true, laidLooks := .later }
def SectKnownUptoCardSaid : Prop := Claim7.holds Tryd.pinned (.plain (OpenSpec.upto sectKnownSpec)) sectKnownUptoCard

/-- THE SECOND FORM's CARD OF 'colloquylaw09.InsnReads'. -/
def insnReadsUptoCard : Claim7 := { stood := { row := insnReadsUptoRow, standIns := [], harness := (true, "ebd85bfdb491ff96fc2e89a0e134024dc1b9a48542b544f540d287cdb2044378"), looks := true }, kinds := [], alts := [], laidByText := true, laidKinds := [.handle], laidTests := true, laidLooks := .later }
def InsnReadsUptoCardSaid : Prop := Claim7.holds Tryd.pinned (.plain (OpenSpec.upto insnReadsSpec)) insnReadsUptoCard

/-- THE SECOND FORM's CARD OF 'colloquylaw09.InsnCuts'. -/
def insnCutsUptoCard : Claim7 := { stood := { row := insnCutsUptoRow, standIns := [], harness := (true, "ebd85bfdb491ff96fc2e89a0e134024dc1b9a48542b544f540d287cdb2044378"), looks := true }, kinds := [], alts := [], laidByText := true, laidKinds := [.handle], laidTests := true, laidLooks := .later }
def InsnCutsUptoCardSaid : Prop := Claim7.holds Tryd.pinned (.plain (OpenSpec.upto insnCutsSpec)) insnCutsUptoCard

/-- THE SECOND FORM's CARD OF 'colloquylaw09.InsnKnown'. -/
def insnKnownUptoCard : Claim7 := { stood := { row := insnKnownUptoRow, standIns := [], harness := (true, "ebd85bfdb491ff96fc2e89a0e134024dc1b9a48542b544f540d287cdb2044378"), looks := true }, kinds := [], alts := [], laidByText := true, laidKinds := [.handle], laidTests := true, laidLooks := .later }
def InsnKnownUptoCardSaid : Prop := Claim7.holds Tryd.pinned (.plain (OpenSpec.upto insnKnownSpec)) insnKnownUptoCard

/-- THE SECOND FORM's CARD OF 'colloquylaw09.InsnBack'. -/
def insnBackUptoCard : Claim7 := { stood := { row := insnBackUptoRow, standIns := [], harness := (true, "ebd85bfdb491ff96fc2e89a0e134024dc1b9a48542b544f540d287cdb2044378"), looks := true }, kinds := [], alts := [], laidByText := true, laidKinds := [.handle], laidTests := true, laidLooks := .later }
def InsnBackUptoCardSaid : Prop := Claim7.holds Tryd.pinned (.plain (OpenSpec.upto insnBackSpec)) insnBackUptoCard

/-- THE SECOND FORM's CARD OF 'colloquylaw09.InsnPuts'. -/
def insnPutsUptoCard : Claim7 := { stood := { row := insnPutsUptoRow, standIns := [], harness := (true, "ebd85bfdb491ff96fc2e89a0e134024dc1b9a48542b544f540d287cdb2044378"), looks := true }, kinds := [], alts := [], laidByText := true, laidKinds := [.handle], laidTests := true, laidLooks := .later }
def InsnPutsUptoCardSaid : Prop := Claim7.holds Tryd.pinned (.plain (OpenSpec.upto insnPutsSpec)) insnPutsUptoCard
end Rows
end Go.Proofs.YtfelcdbhlahehaaDoor
