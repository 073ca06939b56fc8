/-
  No cell of these rows narrows 'for every input' (looked for: loops, veiled, ifaces, maps, wideKeys, modest, calm, conditions, laid).
  DERIVED. THE GIVEN ROWS OF THIS SEAT. 6 by the template 'for every input the law returns true; each argument reads behind the call as it read before'; 0 by the template 'total and deterministic' (their statements: YtemanjljjlpbgaaTotals.lean).
  GIVEN WITH THE SEED: the statements are not yours to turn. If you find one false, say at which input.
  Laid BY PROGRAM, IN A SANDBOX (cutbox-rows.mjs): the forced cells as the released guide's own fill.sh prints them over the translation e1217a1bc1b182e7… (all of the seat's roots in one cut). By AI agents, Wed Nov 11 2026. No macro, syntax, notation, axiom, sorry.
-/
import Derived.Test.YtemanjljjlpbgaaChecked
import GoSem.Claim
import GoSem.ClaimJoined
import GoSem.ClaimMapViews
import Derived.JoinedTies
import Derived.KernelRfl
namespace Go.Proofs.Ytemanjljjlpbgaa
/- THE CELL 'sum', in the pinned program and in every row, IS THE sha256 OF THE DUMP (.gsa) THAT YtemanjljjlpbgaaProg.lean LOADS. Nothing in Lean hashes anything: it is a label: what it is worth is what the hold of that sum in a sandbox is worth. -/
noncomputable def Try.pinned : Pinned := { name := "ytemanjljjlpbgaa", sum := "e1217a1bc1b182e720feee5e60ec0067c03d0a90e4f590bbb652909ae73e222e", checked := Try.checked }
namespace Rows
def none {H : Type} : Left H := { results := [], args := [] }

/-- 'colloquylaw10.BlocksCuts': WHATEVER THE INPUT: true; the input reads as it did. -/
def blocksCutsSpec : ChangeSpec := { name := "blocksCuts", fn := fun _ => fun
  | [d1, d2, d3] => { results := [.lit (.bool true)], args := [d1, d2, d3] }
  | _ => none }
def blocksCutsRow : OpenClaim := { program := "ytemanjljjlpbgaa", sum := "e1217a1bc1b182e720feee5e60ec0067c03d0a90e4f590bbb652909ae73e222e", func := "colloquy/colloquylaw10.BlocksCuts", spec := "blocksCuts", unfollowed := true, recurses := true, apart := false }
def BlocksCutsSaid : Prop := blocksCutsRow.holds Try.pinned (OpenSpec.ofChange blocksCutsSpec)

/-- ITS FALSE NEIGHBOUR: 'it returns false'. Refute it at one input. -/
def blocksCutsWrong : ChangeSpec := { name := "blocksCuts", fn := fun _ => fun
  | [d1, d2, d3] => { results := [.lit (.bool false)], args := [d1, d2, d3] }
  | _ => none }
def BlocksCutsWrongFalsely : Prop := blocksCutsRow.holds Try.pinned (OpenSpec.ofChange blocksCutsWrong)

/-- 'colloquylaw10.BlocksGoes': WHATEVER THE INPUT: true; the input reads as it did. -/
def blocksGoesSpec : ChangeSpec := { name := "blocksGoes", fn := fun _ => fun
  | [d1, d2, d3] => { results := [.lit (.bool true)], args := [d1, d2, d3] }
  | _ => none }
def blocksGoesRow : OpenClaim := { program := "ytemanjljjlpbgaa", sum := "e1217a1bc1b182e720feee5e60ec0067c03d0a90e4f590bbb652909ae73e222e", func := "colloquy/colloquylaw10.BlocksGoes", spec := "blocksGoes", unfollowed := true, recurses := true, apart := false }
def BlocksGoesSaid : Prop := blocksGoesRow.holds Try.pinned (OpenSpec.ofChange blocksGoesSpec)

/-- ITS FALSE NEIGHBOUR: 'it returns false'. Refute it at one input. -/
def blocksGoesWrong : ChangeSpec := { name := "blocksGoes", fn := fun _ => fun
  | [d1, d2, d3] => { results := [.lit (.bool false)], args := [d1, d2, d3] }
  | _ => none }
def BlocksGoesWrongFalsely : Prop := blocksGoesRow.holds Try.pinned (OpenSpec.ofChange blocksGoesWrong)

/-- 'colloquylaw10.BlocksWhole': WHATEVER THE INPUT: true; the input reads as it did. -/
def blocksWholeSpec : ChangeSpec := { name := "blocksWhole", fn := fun _ => fun
  | [d1, d2] => { results := [.lit (.bool true)], args := [d1, d2] }
  | _ => none }
def blocksWholeRow : OpenClaim := { program := "ytemanjljjlpbgaa", sum := "e1217a1bc1b182e720feee5e60ec0067c03d0a90e4f590bbb652909ae73e222e", func := "colloquy/colloquylaw10.BlocksWhole", spec := "blocksWhole", unfollowed := true, recurses := true, apart := false }
def BlocksWholeSaid : Prop := blocksWholeRow.holds Try.pinned (OpenSpec.ofChange blocksWholeSpec)

/-- ITS FALSE NEIGHBOUR: 'it returns false'. Refute it at one input. -/
def blocksWholeWrong : ChangeSpec := { name := "blocksWhole", fn := fun _ => fun
  | [d1, d2] => { results := [.lit (.bool false)], args := [d1, d2] }
  | _ => none }
def BlocksWholeWrongFalsely : Prop := blocksWholeRow.holds Try.pinned (OpenSpec.ofChange blocksWholeWrong)

/-- 'colloquylaw10.BlocksTalk': WHATEVER THE INPUT: true; the input reads as it did. -/
def blocksTalkSpec : ChangeSpec := { name := "blocksTalk", fn := fun _ => fun
  | [d1, d2, d3] => { results := [.lit (.bool true)], args := [d1, d2, d3] }
  | _ => none }
def blocksTalkRow : OpenClaim := { program := "ytemanjljjlpbgaa", sum := "e1217a1bc1b182e720feee5e60ec0067c03d0a90e4f590bbb652909ae73e222e", func := "colloquy/colloquylaw10.BlocksTalk", spec := "blocksTalk", unfollowed := true, recurses := true, apart := false }
def BlocksTalkSaid : Prop := blocksTalkRow.holds Try.pinned (OpenSpec.ofChange blocksTalkSpec)

/-- ITS FALSE NEIGHBOUR: 'it returns false'. Refute it at one input. -/
def blocksTalkWrong : ChangeSpec := { name := "blocksTalk", fn := fun _ => fun
  | [d1, d2, d3] => { results := [.lit (.bool false)], args := [d1, d2, d3] }
  | _ => none }
def BlocksTalkWrongFalsely : Prop := blocksTalkRow.holds Try.pinned (OpenSpec.ofChange blocksTalkWrong)

/-- 'colloquylaw10.BlocksTold': WHATEVER THE INPUT: true; the input reads as it did. -/
def blocksToldSpec : ChangeSpec := { name := "blocksTold", fn := fun _ => fun
  | [d] => { results := [.lit (.bool true)], args := [d] }
  | _ => none }
def blocksToldRow : OpenClaim := { program := "ytemanjljjlpbgaa", sum := "e1217a1bc1b182e720feee5e60ec0067c03d0a90e4f590bbb652909ae73e222e", func := "colloquy/colloquylaw10.BlocksTold", spec := "blocksTold", unfollowed := true, recurses := true, apart := false }
def BlocksToldSaid : Prop := blocksToldRow.holds Try.pinned (OpenSpec.ofChange blocksToldSpec)

/-- ITS FALSE NEIGHBOUR: 'it returns false'. Refute it at one input. -/
def blocksToldWrong : ChangeSpec := { name := "blocksTold", fn := fun _ => fun
  | [d] => { results := [.lit (.bool false)], args := [d] }
  | _ => none }
def BlocksToldWrongFalsely : Prop := blocksToldRow.holds Try.pinned (OpenSpec.ofChange blocksToldWrong)

/-- 'colloquylaw10.BlocksKnown': WHATEVER THE INPUT: true; the input reads as it did. -/
def blocksKnownSpec : ChangeSpec := { name := "blocksKnown", fn := fun _ => fun
  | [] => { results := [.lit (.bool true)], args := [] }
  | _ => none }
def blocksKnownRow : OpenClaim := { program := "ytemanjljjlpbgaa", sum := "e1217a1bc1b182e720feee5e60ec0067c03d0a90e4f590bbb652909ae73e222e", func := "colloquy/colloquylaw10.BlocksKnown", spec := "blocksKnown", unfollowed := true, recurses := true, apart := false }
def BlocksKnownSaid : Prop := blocksKnownRow.holds Try.pinned (OpenSpec.ofChange blocksKnownSpec)

/-- ITS FALSE NEIGHBOUR: 'it returns false'. Refute it at one input. -/
def blocksKnownWrong : ChangeSpec := { name := "blocksKnown", fn := fun _ => fun
  | [] => { results := [.lit (.bool false)], args := [] }
  | _ => none }
def BlocksKnownWrongFalsely : Prop := blocksKnownRow.holds Try.pinned (OpenSpec.ofChange blocksKnownWrong)

/- THE SECOND FORM. 'bulk': how many values and letters a reading holds, each counted each time it is reached (what is shared counts as often as it is met; a slice's spare places count too). A statement '..UptoSaid' is the law's where the arguments, and the package variables that the reading takes, are together of bulk at most 1048576: NARROWER than '..Said'. Prove '..Said' where nothing that the law and all that it calls make is longer than what came in: it says more and counts as full. Else prove '..UptoSaid'. A law counts once. -/
mutual
def uptoBulk {H : Type} : DataW H → Nat
  | .lit (.string bytes) => bytes.length + 1
  | .lit _ => 1
  | .nil => 1
  | .ptr d => uptoBulk d + 1
  | .slice elems spare => uptoBulkAll elems + uptoBulkAll spare + 1
  | .agg parts => uptoBulkAll parts + 1
  | .iface _ d => uptoBulk d + 1
  | .map entries => uptoBulkEntries entries + 1
  | .held _ => 1
def uptoBulkAll {H : Type} : List (DataW H) → Nat
  | [] => 0
  | d :: r => uptoBulk d + uptoBulkAll r
def uptoBulkEntries {H : Type} : List (Lit × DataW H) → Nat
  | [] => 0
  | x :: r => uptoBulkEntry x + uptoBulkEntries r
def uptoBulkEntry {H : Type} : Lit × DataW H → Nat
  | (.string bytes, d) => bytes.length + uptoBulk d + 1
  | (_, d) => uptoBulk d + 1
 end
def uptoSmall : (H : Type) → List (DataW H) → Bool := fun _ ds => decide (uptoBulkAll ds ≤ 1048576)
def OpenSpec.upto (s : _root_.Go.ChangeSpec) : _root_.Go.OpenSpec := { _root_.Go.OpenSpec.ofChange s with cond := some uptoSmall }

/-- 'colloquylaw10.BlocksCuts', WHERE WHAT IT READS IS OF BULK AT MOST 1048576: true; the input reads as it did. -/
def blocksCutsUptoRow : OpenClaim := { program := "ytemanjljjlpbgaa", sum := "e1217a1bc1b182e720feee5e60ec0067c03d0a90e4f590bbb652909ae73e222e", func := "colloquy/colloquylaw10.BlocksCuts", spec := "blocksCuts", unfollowed := true, recurses := true, apart := false, narrowed := true }
def BlocksCutsUptoSaid : Prop := blocksCutsUptoRow.holds Try.pinned (OpenSpec.upto blocksCutsSpec)

/-- 'colloquylaw10.BlocksGoes', WHERE WHAT IT READS IS OF BULK AT MOST 1048576: true; the input reads as it did. -/
def blocksGoesUptoRow : OpenClaim := { program := "ytemanjljjlpbgaa", sum := "e1217a1bc1b182e720feee5e60ec0067c03d0a90e4f590bbb652909ae73e222e", func := "colloquy/colloquylaw10.BlocksGoes", spec := "blocksGoes", unfollowed := true, recurses := true, apart := false, narrowed := true }
def BlocksGoesUptoSaid : Prop := blocksGoesUptoRow.holds Try.pinned (OpenSpec.upto blocksGoesSpec)

/-- 'colloquylaw10.BlocksWhole', WHERE WHAT IT READS IS OF BULK AT MOST 1048576: true; the input reads as it did. -/
def blocksWholeUptoRow : OpenClaim := { program := "ytemanjljjlpbgaa", sum := "e1217a1bc1b182e720feee5e60ec0067c03d0a90e4f590bbb652909ae73e222e", func := "colloquy/colloquylaw10.BlocksWhole", spec := "blocksWhole", unfollowed := true, recurses := true, apart := false, narrowed := true }
def BlocksWholeUptoSaid : Prop := blocksWholeUptoRow.holds Try.pinned (OpenSpec.upto blocksWholeSpec)

/-- 'colloquylaw10.BlocksTalk', WHERE WHAT IT READS IS OF BULK AT MOST 1048576: true; the input reads as it did. -/
def blocksTalkUptoRow : OpenClaim := { program := "ytemanjljjlpbgaa", sum := "e1217a1bc1b182e720feee5e60ec0067c03d0a90e4f590bbb652909ae73e222e", func := "colloquy/colloquylaw10.BlocksTalk", spec := "blocksTalk", unfollowed := true, recurses := true, apart := false, narrowed := true }
def BlocksTalkUptoSaid : Prop := blocksTalkUptoRow.holds Try.pinned (OpenSpec.upto blocksTalkSpec)

/-- 'colloquylaw10.BlocksTold', WHERE WHAT IT READS IS OF BULK AT MOST 1048576: true; the input reads as it did. -/
def blocksToldUptoRow : OpenClaim := { program := "ytemanjljjlpbgaa", sum := "e1217a1bc1b182e720feee5e60ec0067c03d0a90e4f590bbb652909ae73e222e", func := "colloquy/colloquylaw10.BlocksTold", spec := "blocksTold", unfollowed := true, recurses := true, apart := false, narrowed := true }
def BlocksToldUptoSaid : Prop := blocksToldUptoRow.holds Try.pinned (OpenSpec.upto blocksToldSpec)

/-- 'colloquylaw10.BlocksKnown', WHERE WHAT IT READS IS OF BULK AT MOST 1048576: true; the input reads as it did. -/
def blocksKnownUptoRow : OpenClaim := { program := "ytemanjljjlpbgaa", sum := "e1217a1bc1b182e720feee5e60ec0067c03d0a90e4f590bbb652909ae73e222e", func := "colloquy/colloquylaw10.BlocksKnown", spec := "blocksKnown", unfollowed := true, recurses := true, apart := false, narrowed := true }
def BlocksKnownUptoSaid : Prop := blocksKnownUptoRow.holds Try.pinned (OpenSpec.upto blocksKnownSpec)

end Rows
end Go.Proofs.Ytemanjljjlpbgaa
