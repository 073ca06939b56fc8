/-
  DERIVED. GIVEN WITH THE SEED: THE CARDS: each row of YtejhdhmopiahhaaDoorRows.lean that lists a variable, with what it lists TIED to the program's text (the seventh form; the later family's looks); each row that meets fmt, with fmt's text TOLD by the authors' own Lean function (tested against real Go, not proved from fmt's source: count such statements apart). THE CARD IS WHAT COUNTS. Prove the row's statement (the work); the ties are given (YtejhdhmopiahhaaDoorTie.lean); close each card by the builder's one call (the guide's Derived/Test/ToyasCard.lean, 'card_holds'). Laid BY PROGRAM, IN A SANDBOX (cutbox-door.mjs). By AI agents, Wed Nov 11 2026. No macro, syntax, notation, axiom, sorry.
-/
import Derived.Test.YtejhdhmopiahhaaDoorRows
import GoSem.ClaimSeven
namespace Go.Proofs.YtejhdhmopiahhaaDoor
namespace Rows

/-- THE TIED CARD OF 'colloquylaw01.OctetsReads'. -/
def octetsReadsCard : Claim7 := { stood := { row := octetsReadsRow, standIns := [], harness := (true, "19cca98aba6938abccbcd320a48ad15f6a9acd0a32e3781c500666bd74ce1de3"), looks := true }, kinds := [], alts := [], laidByText := true, laidKinds := [.handle], laidTests := true, laidLooks := .later }
def OctetsReadsCardSaid : Prop := Claim7.holds Tryd.pinned (.plain (OpenSpec.ofChange octetsReadsSpec)) octetsReadsCard

/-- THE TIED CARD OF 'colloquylaw01.OctetsParts'. -/
def octetsPartsCard : Claim7 := { stood := { row := octetsPartsRow, standIns := [], harness := (true, "19cca98aba6938abccbcd320a48ad15f6a9acd0a32e3781c500666bd74ce1de3"), looks := true }, kinds := [], alts := [], laidByText := true, laidKinds := [.handle], laidTests := true, laidLooks := .later }
def OctetsPartsCardSaid : Prop := Claim7.holds Tryd.pinned (.plain (OpenSpec.ofChange octetsPartsSpec)) octetsPartsCard

/-- THE TIED CARD OF 'colloquylaw01.OctetsBack'. -/
def octetsBackCard : Claim7 := { stood := { row := octetsBackRow, standIns := [], harness := (true, "19cca98aba6938abccbcd320a48ad15f6a9acd0a32e3781c500666bd74ce1de3"), looks := true }, kinds := [], alts := [], laidByText := true, laidKinds := [.handle], laidTests := true, laidLooks := .later }
def OctetsBackCardSaid : Prop := Claim7.holds Tryd.pinned (.plain (OpenSpec.ofChange octetsBackSpec)) octetsBackCard

/-- THE TIED CARD OF 'colloquylaw01.OctetsKnown'. -/
def octetsKnownCard : Claim7 := { stood := { row := octetsKnownRow, standIns := [], harness := (true, "19cca98aba6938abccbcd320a48ad15f6a9acd0a32e3781c500666bd74ce1de3"), looks := true }, kinds := [], alts := [], laidByText := true, laidKinds := [.handle], laidTests := true, laidLooks := .later }
def OctetsKnownCardSaid : Prop := Claim7.holds Tryd.pinned (.plain (OpenSpec.ofChange octetsKnownSpec)) octetsKnownCard

/-- THE TIED CARD OF 'colloquylaw02.LebReads'. -/
def lebReadsCard : Claim7 := { stood := { row := lebReadsRow, standIns := [], harness := (true, "19cca98aba6938abccbcd320a48ad15f6a9acd0a32e3781c500666bd74ce1de3"), looks := true }, kinds := [], alts := [], laidByText := true, laidKinds := [.handle], laidTests := true, laidLooks := .later }
def LebReadsCardSaid : Prop := Claim7.holds Tryd.pinned (.plain (OpenSpec.ofChange lebReadsSpec)) lebReadsCard

/-- THE TIED CARD OF 'colloquylaw02.LebPuts'. -/
def lebPutsCard : Claim7 := { stood := { row := lebPutsRow, standIns := [], harness := (true, "19cca98aba6938abccbcd320a48ad15f6a9acd0a32e3781c500666bd74ce1de3"), looks := true }, kinds := [], alts := [], laidByText := true, laidKinds := [.handle], laidTests := true, laidLooks := .later }
def LebPutsCardSaid : Prop := Claim7.holds Tryd.pinned (.plain (OpenSpec.ofChange lebPutsSpec)) lebPutsCard

/-- THE TIED CARD OF 'colloquylaw02.LebOne'. -/
def lebOneCard : Claim7 := { stood := { row := lebOneRow, standIns := [], harness := (true, "19cca98aba6938abccbcd320a48ad15f6a9acd0a32e3781c500666bd74ce1de3"), looks := true }, kinds := [], alts := [], laidByText := true, laidKinds := [.handle], laidTests := true, laidLooks := .later }
def LebOneCardSaid : Prop := Claim7.holds Tryd.pinned (.plain (OpenSpec.ofChange lebOneSpec)) lebOneCard

/-- THE TIED CARD OF 'colloquylaw02.LebFolds'. -/
def lebFoldsCard : Claim7 := { stood := { row := lebFoldsRow, standIns := [], harness := (true, "19cca98aba6938abccbcd320a48ad15f6a9acd0a32e3781c500666bd74ce1de3"), looks := true }, kinds := [], alts := [], laidByText := true, laidKinds := [.handle], laidTests := true, laidLooks := .later }
def LebFoldsCardSaid : Prop := Claim7.holds Tryd.pinned (.plain (OpenSpec.ofChange lebFoldsSpec)) lebFoldsCard

/-- THE TIED CARD OF 'colloquylaw02.LebKnown'. -/
def lebKnownCard : Claim7 := { stood := { row := lebKnownRow, standIns := [], harness := (true, "19cca98aba6938abccbcd320a48ad15f6a9acd0a32e3781c500666bd74ce1de3"), looks := true }, kinds := [], alts := [], laidByText := true, laidKinds := [.handle], laidTests := true, laidLooks := .later }
def LebKnownCardSaid : Prop := Claim7.holds Tryd.pinned (.plain (OpenSpec.ofChange lebKnownSpec)) lebKnownCard

/-- THE TIED CARD OF 'colloquylaw02.LebBack'. -/
def lebBackCard : Claim7 := { stood := { row := lebBackRow, standIns := [], harness := (true, "19cca98aba6938abccbcd320a48ad15f6a9acd0a32e3781c500666bd74ce1de3"), looks := true }, kinds := [], alts := [], laidByText := true, laidKinds := [.handle], laidTests := true, laidLooks := .later }
def LebBackCardSaid : Prop := Claim7.holds Tryd.pinned (.plain (OpenSpec.ofChange lebBackSpec)) lebBackCard

/-- THE SECOND FORM's CARD OF 'colloquylaw01.OctetsReads'. -/
def octetsReadsUptoCard : Claim7 := { stood := { row := octetsReadsUptoRow, standIns := [], harness := (true, "19cca98aba6938abccbcd320a48ad15f6a9acd0a32e3781c500666bd74ce1de3"), looks := true }, kinds := [], alts := [], laidByText := true, laidKinds := [.handle], laidTests := true, laidLooks := .later }
def OctetsReadsUptoCardSaid : Prop := Claim7.holds Tryd.pinned (.plain (OpenSpec.upto octetsReadsSpec)) octetsReadsUptoCard

/-- THE SECOND FORM's CARD OF 'colloquylaw01.OctetsParts'. -/
def octetsPartsUptoCard : Claim7 := { stood := { row := octetsPartsUptoRow, standIns := [], harness := (true, "19cca98aba6938abccbcd320a48ad15f6a9acd0a32e3781c500666bd74ce1de3"), looks := true }, kinds := [], alts := [], laidByText := true, laidKinds := [.handle], laidTests := true, laidLooks := .later }
def OctetsPartsUptoCardSaid : Prop := Claim7.holds Tryd.pinned (.plain (OpenSpec.upto octetsPartsSpec)) octetsPartsUptoCard

/-- THE SECOND FORM's CARD OF 'colloquylaw01.OctetsBack'. -/
def octetsBackUptoCard : Claim7 := { stood := { row := octetsBackUptoRow, standIns := [], harness := (true, "19cca98aba6938abccbcd320a48ad15f6a9acd0a32e3781c500666bd74ce1de3"), looks := true }, kinds := [], alts := [], laidByText := true, laidKinds := [.handle], laidTests := true, laidLooks := .later }
def OctetsBackUptoCardSaid : Prop := Claim7.holds Tryd.pinned (.plain (OpenSpec.upto octetsBackSpec)) octetsBackUptoCard

/-- THE SECOND FORM's CARD OF 'colloquylaw01.OctetsKnown'. -/
def octetsKnownUptoCard : Claim7 := { stood := { row := octetsKnownUptoRow, standIns := [], harness := (true, "19cca98aba6938abccbcd320a48ad15f6a9acd0a32e3781c500666bd74ce1de3"), looks := true }, kinds := [], alts := [], laidByText := true, laidKinds := [.handle], laidTests := true, laidLooks := .later }
def OctetsKnownUptoCardSaid : Prop := Claim7.holds Tryd.pinned (.plain (OpenSpec.upto octetsKnownSpec)) octetsKnownUptoCard

/-- THE SECOND FORM's CARD OF 'colloquylaw02.LebReads'. -/
def lebReadsUptoCard : Claim7 := { stood := { row := lebReadsUptoRow, standIns := [], harness := (true, "19cca98aba6938abccbcd320a48ad15f6a9acd0a32e3781c500666bd74ce1de3"), looks := true }, kinds := [], alts := [], laidByText := true, laidKinds := [.handle], laidTests := true, laidLooks := .later }
def LebReadsUptoCardSaid : Prop := Claim7.holds Tryd.pinned (.plain (OpenSpec.upto lebReadsSpec)) lebReadsUptoCard

/-- THE SECOND FORM's CARD OF 'colloquylaw02.LebPuts'. -/
def lebPutsUptoCard : Claim7 := { stood := { row := lebPutsUptoRow, standIns := [], harness := (true, "19cca98aba6938abccbcd320a48ad15f6a9acd0a32e3781c500666bd74ce1de3"), looks := true }, kinds := [], alts := [], laidByText := true, laidKinds := [.handle], laidTests := true, laidLooks := .later }
def LebPutsUptoCardSaid : Prop := Claim7.holds Tryd.pinned (.plain (OpenSpec.upto lebPutsSpec)) lebPutsUptoCard

/-- THE SECOND FORM's CARD OF 'colloquylaw02.LebOne'. -/
def lebOneUptoCard : Claim7 := { stood := { row := lebOneUptoRow, standIns := [], harness := (true, "19cca98aba6938abccbcd320a48ad15f6a9acd0a32e3781c500666bd74ce1de3"), looks := true }, kinds := [], alts := [], laidByText := true, laidKinds := [.handle], laidTests := true, laidLooks := .later }
def LebOneUptoCardSaid : Prop := Claim7.holds Tryd.pinned (.plain (OpenSpec.upto lebOneSpec)) lebOneUptoCard

/-- THE SECOND FORM's CARD OF 'colloquylaw02.LebFolds'. -/
def lebFoldsUptoCard : Claim7 := { stood := { row := lebFoldsUptoRow, standIns := [], harness := (true, "19cca98aba6938abccbcd320a48ad15f6a9acd0a32e3781c500666bd74ce1de3"), looks := true }, kinds := [], alts := [], laidByText := true, laidKinds := [.handle], laidTests := true, laidLooks := .later }
def LebFoldsUptoCardSaid : Prop := Claim7.holds Tryd.pinned (.plain (OpenSpec.upto lebFoldsSpec)) lebFoldsUptoCard

/-- THE SECOND FORM's CARD OF 'colloquylaw02.LebKnown'. -/
def lebKnownUptoCard : Claim7 := { stood := { row := lebKnownUptoRow, standIns := [], harness := (true, "19cca98aba6938abccbcd320a48ad15f6a9acd0a32e3781c500666bd74ce1de3"), looks := true }, kinds := [], alts := [], laidByText := true, laidKinds := [.handle], laidTests := true, laidLooks := .later }
def LebKnownUptoCardSaid : Prop := Claim7.holds Tryd.pinned (.plain (OpenSpec.upto lebKnownSpec)) lebKnownUptoCard

/-- THE SECOND FORM's CARD OF 'colloquylaw02.LebBack'. -/
def lebBackUptoCard : Claim7 := { stood := { row := lebBackUptoRow, standIns := [], harness := (true, "19cca98aba6938abccbcd320a48ad15f6a9acd0a32e3781c500666bd74ce1de3"), looks := true }, kinds := [], alts := [], laidByText := true, laidKinds := [.handle], laidTests := true, laidLooks := .later }
def LebBackUptoCardSaid : Prop := Claim7.holds Tryd.pinned (.plain (OpenSpec.upto lebBackSpec)) lebBackUptoCard
end Rows
end Go.Proofs.YtejhdhmopiahhaaDoor
