/-
  NARROWER THAN 'FOR EVERY INPUT', by the rows' own cells (each row's printed sentence says how): ModulePuts: laid · ModuleReads: laid · ModuleBack: laid · ModuleKnown: laid · ModuleParts: laid.
  DERIVED. THE GIVEN ROWS OF THIS SEAT. 5 by the template 'for every input the law returns true; each argument reads behind the call as it read before'; 0 by the template 'total and deterministic' (their statements: YtickblndgihoeaaGreatDoorTotals.lean).
  GIVEN WITH THE SEED: the statements are not yours to turn. If you find one false, say at which input.
  Laid BY PROGRAM, IN A SANDBOX (cutbox-rows.mjs): the forced cells as the released guide's own fill.sh prints them over the translation 32d2f89cc154c60c… (all of the seat's roots in one cut). By AI agents, Wed Nov 11 2026. No macro, syntax, notation, axiom, sorry.
-/
import Derived.Test.YtickblndgihoeaaGreatDoorChecked
import GoSem.Claim
import GoSem.ClaimJoined
import GoSem.ClaimMapViews
import Derived.JoinedTies
import Derived.KernelRfl
namespace Go.Proofs.YtickblndgihoeaaGreatDoor
/- THE CELL 'sum', in the pinned program and in every row, IS THE sha256 OF THE DUMP (.gsa) THAT YtickblndgihoeaaGreatDoorProg.lean LOADS. Nothing in Lean hashes anything: it is a label: what it is worth is what the hold of that sum in a sandbox is worth. -/
noncomputable def Tryz.pinned : Pinned := { name := "ytickblndgihoeaagreatdoor", sum := "32d2f89cc154c60c6eefa73e6b276ffc9bfd18a03d01293f4c657edfa0db8d5e", checked := Tryz.checked }
namespace Rows
def none {H : Type} : Left H := { results := [], args := [] }

/- WHAT THE LISTED PACKAGE-LEVEL VARIABLES READ AS WHEN THE CALL BEGINS. Each datum BY PROGRAM (the guide's laid-datum.mjs) off the statement by which the dump's own 'gosem.cut.vars' lays the variable. In a bare row this is a premise. The card (YtickblndgihoeaaGreatDoorCards.lean) ties it to the program's text. -/
def laid_errors_errorType {H : Type} : DataW H := .iface "internal/reflectlite.rtype" (.agg [.ptr (.lit (.string [101, 114, 114, 111, 114]))])

/-- 'colloquylaw11.ModulePuts': WHATEVER THE INPUT: true; the input reads as it did. -/
def modulePutsSpec : ChangeSpec := { name := "modulePuts", fn := fun _ => fun
  | [d] => { results := [.lit (.bool true)], args := [d] }
  | _ => none }
def modulePutsRow : OpenClaim := { program := "ytickblndgihoeaagreatdoor", sum := "32d2f89cc154c60c6eefa73e6b276ffc9bfd18a03d01293f4c657edfa0db8d5e", func := "colloquy/colloquylaw11.ModulePuts", spec := "modulePuts", inPlace := ["internal/reflectlite.TypeOf", "internal/reflectlite.ValueOf", "(internal/reflectlite.Value).Type", "(internal/reflectlite.Value).IsNil", "(internal/reflectlite.Value).Elem", "(internal/reflectlite.Value).Set"], unfollowed := true, recurses := true, named := ["errors.errorType"], apart := false, laid := [("errors.errorType", laid_errors_errorType)] }
def ModulePutsSaid : Prop := modulePutsRow.holds Tryz.pinned (OpenSpec.ofChange modulePutsSpec)

/-- ITS FALSE NEIGHBOUR: 'it returns false'. Refute it at one input. -/
def modulePutsWrong : ChangeSpec := { name := "modulePuts", fn := fun _ => fun
  | [d] => { results := [.lit (.bool false)], args := [d] }
  | _ => none }
def ModulePutsWrongFalsely : Prop := modulePutsRow.holds Tryz.pinned (OpenSpec.ofChange modulePutsWrong)

/-- 'colloquylaw11.ModuleReads': WHATEVER THE INPUT: true; the input reads as it did. -/
def moduleReadsSpec : ChangeSpec := { name := "moduleReads", fn := fun _ => fun
  | [d1, d2, d3] => { results := [.lit (.bool true)], args := [d1, d2, d3] }
  | _ => none }
def moduleReadsRow : OpenClaim := { program := "ytickblndgihoeaagreatdoor", sum := "32d2f89cc154c60c6eefa73e6b276ffc9bfd18a03d01293f4c657edfa0db8d5e", func := "colloquy/colloquylaw11.ModuleReads", spec := "moduleReads", inPlace := ["internal/reflectlite.ValueOf", "(internal/reflectlite.Value).Type", "(internal/reflectlite.Value).IsNil", "internal/reflectlite.TypeOf", "(internal/reflectlite.Value).Elem", "(internal/reflectlite.Value).Set"], unfollowed := true, recurses := true, named := ["errors.errorType"], apart := false, laid := [("errors.errorType", laid_errors_errorType)] }
def ModuleReadsSaid : Prop := moduleReadsRow.holds Tryz.pinned (OpenSpec.ofChange moduleReadsSpec)

/-- ITS FALSE NEIGHBOUR: 'it returns false'. Refute it at one input. -/
def moduleReadsWrong : ChangeSpec := { name := "moduleReads", fn := fun _ => fun
  | [d1, d2, d3] => { results := [.lit (.bool false)], args := [d1, d2, d3] }
  | _ => none }
def ModuleReadsWrongFalsely : Prop := moduleReadsRow.holds Tryz.pinned (OpenSpec.ofChange moduleReadsWrong)

/-- 'colloquylaw11.ModuleBack': WHATEVER THE INPUT: true; the input reads as it did. -/
def moduleBackSpec : ChangeSpec := { name := "moduleBack", fn := fun _ => fun
  | [d1, d2, d3] => { results := [.lit (.bool true)], args := [d1, d2, d3] }
  | _ => none }
def moduleBackRow : OpenClaim := { program := "ytickblndgihoeaagreatdoor", sum := "32d2f89cc154c60c6eefa73e6b276ffc9bfd18a03d01293f4c657edfa0db8d5e", func := "colloquy/colloquylaw11.ModuleBack", spec := "moduleBack", inPlace := ["internal/reflectlite.TypeOf", "internal/reflectlite.ValueOf", "(internal/reflectlite.Value).Type", "(internal/reflectlite.Value).IsNil", "(internal/reflectlite.Value).Elem", "(internal/reflectlite.Value).Set"], unfollowed := true, recurses := true, named := ["errors.errorType"], apart := false, laid := [("errors.errorType", laid_errors_errorType)] }
def ModuleBackSaid : Prop := moduleBackRow.holds Tryz.pinned (OpenSpec.ofChange moduleBackSpec)

/-- ITS FALSE NEIGHBOUR: 'it returns false'. Refute it at one input. -/
def moduleBackWrong : ChangeSpec := { name := "moduleBack", fn := fun _ => fun
  | [d1, d2, d3] => { results := [.lit (.bool false)], args := [d1, d2, d3] }
  | _ => none }
def ModuleBackWrongFalsely : Prop := moduleBackRow.holds Tryz.pinned (OpenSpec.ofChange moduleBackWrong)

/-- 'colloquylaw11.ModuleKnown': WHATEVER THE INPUT: true; the input reads as it did. -/
def moduleKnownSpec : ChangeSpec := { name := "moduleKnown", fn := fun _ => fun
  | [] => { results := [.lit (.bool true)], args := [] }
  | _ => none }
def moduleKnownRow : OpenClaim := { program := "ytickblndgihoeaagreatdoor", sum := "32d2f89cc154c60c6eefa73e6b276ffc9bfd18a03d01293f4c657edfa0db8d5e", func := "colloquy/colloquylaw11.ModuleKnown", spec := "moduleKnown", inPlace := ["internal/reflectlite.TypeOf", "internal/reflectlite.ValueOf", "(internal/reflectlite.Value).Type", "(internal/reflectlite.Value).IsNil", "(internal/reflectlite.Value).Elem", "(internal/reflectlite.Value).Set"], unfollowed := true, recurses := true, named := ["errors.errorType"], apart := false, laid := [("errors.errorType", laid_errors_errorType)] }
def ModuleKnownSaid : Prop := moduleKnownRow.holds Tryz.pinned (OpenSpec.ofChange moduleKnownSpec)

/-- ITS FALSE NEIGHBOUR: 'it returns false'. Refute it at one input. -/
def moduleKnownWrong : ChangeSpec := { name := "moduleKnown", fn := fun _ => fun
  | [] => { results := [.lit (.bool false)], args := [] }
  | _ => none }
def ModuleKnownWrongFalsely : Prop := moduleKnownRow.holds Tryz.pinned (OpenSpec.ofChange moduleKnownWrong)

/-- 'colloquylaw11.ModuleParts': WHATEVER THE INPUT: true; the input reads as it did. -/
def modulePartsSpec : ChangeSpec := { name := "moduleParts", fn := fun _ => fun
  | [d1, d2] => { results := [.lit (.bool true)], args := [d1, d2] }
  | _ => none }
def modulePartsRow : OpenClaim := { program := "ytickblndgihoeaagreatdoor", sum := "32d2f89cc154c60c6eefa73e6b276ffc9bfd18a03d01293f4c657edfa0db8d5e", func := "colloquy/colloquylaw11.ModuleParts", spec := "moduleParts", inPlace := ["internal/reflectlite.TypeOf", "internal/reflectlite.ValueOf", "(internal/reflectlite.Value).Type", "(internal/reflectlite.Value).IsNil", "(internal/reflectlite.Value).Elem", "(internal/reflectlite.Value).Set"], unfollowed := true, recurses := true, named := ["errors.errorType"], apart := false, laid := [("errors.errorType", laid_errors_errorType)] }
def ModulePartsSaid : Prop := modulePartsRow.holds Tryz.pinned (OpenSpec.ofChange modulePartsSpec)

/-- ITS FALSE NEIGHBOUR: 'it returns false'. Refute it at one input. -/
def modulePartsWrong : ChangeSpec := { name := "moduleParts", fn := fun _ => fun
  | [d1, d2] => { results := [.lit (.bool false)], args := [d1, d2] }
  | _ => none }
def ModulePartsWrongFalsely : Prop := modulePartsRow.holds Tryz.pinned (OpenSpec.ofChange modulePartsWrong)

/- THE SECOND FORM. 'bulk': how many values and letters a reading holds, each counted each time it is reached (what is shared counts as often as it is met; a slice's spare places count too). A statement '..UptoSaid' is the law's where the arguments, and the package variables that the reading takes, are together of bulk at most 1048576: NARROWER than '..Said'. Prove '..Said' where nothing that the law and all that it calls make is longer than what came in: it says more and counts as full. Else prove '..UptoSaid'. A law counts once. -/
mutual
def uptoBulk {H : Type} : DataW H → Nat
  | .lit (.string bytes) => bytes.length + 1
  | .lit _ => 1
  | .nil => 1
  | .ptr d => uptoBulk d + 1
  | .slice elems spare => uptoBulkAll elems + uptoBulkAll spare + 1
  | .agg parts => uptoBulkAll parts + 1
  | .iface _ d => uptoBulk d + 1
  | .map entries => uptoBulkEntries entries + 1
  | .held _ => 1
def uptoBulkAll {H : Type} : List (DataW H) → Nat
  | [] => 0
  | d :: r => uptoBulk d + uptoBulkAll r
def uptoBulkEntries {H : Type} : List (Lit × DataW H) → Nat
  | [] => 0
  | x :: r => uptoBulkEntry x + uptoBulkEntries r
def uptoBulkEntry {H : Type} : Lit × DataW H → Nat
  | (.string bytes, d) => bytes.length + uptoBulk d + 1
  | (_, d) => uptoBulk d + 1
 end
def uptoSmall : (H : Type) → List (DataW H) → Bool := fun _ ds => decide (uptoBulkAll ds ≤ 1048576)
def OpenSpec.upto (s : _root_.Go.ChangeSpec) : _root_.Go.OpenSpec := { _root_.Go.OpenSpec.ofChange s with cond := some uptoSmall }

/-- 'colloquylaw11.ModulePuts', WHERE WHAT IT READS IS OF BULK AT MOST 1048576: true; the input reads as it did. -/
def modulePutsUptoRow : OpenClaim := { program := "ytickblndgihoeaagreatdoor", sum := "32d2f89cc154c60c6eefa73e6b276ffc9bfd18a03d01293f4c657edfa0db8d5e", func := "colloquy/colloquylaw11.ModulePuts", spec := "modulePuts", inPlace := ["internal/reflectlite.TypeOf", "internal/reflectlite.ValueOf", "(internal/reflectlite.Value).Type", "(internal/reflectlite.Value).IsNil", "(internal/reflectlite.Value).Elem", "(internal/reflectlite.Value).Set"], unfollowed := true, recurses := true, named := ["errors.errorType"], apart := false, laid := [("errors.errorType", laid_errors_errorType)], narrowed := true }
def ModulePutsUptoSaid : Prop := modulePutsUptoRow.holds Tryz.pinned (OpenSpec.upto modulePutsSpec)

/-- 'colloquylaw11.ModuleReads', WHERE WHAT IT READS IS OF BULK AT MOST 1048576: true; the input reads as it did. -/
def moduleReadsUptoRow : OpenClaim := { program := "ytickblndgihoeaagreatdoor", sum := "32d2f89cc154c60c6eefa73e6b276ffc9bfd18a03d01293f4c657edfa0db8d5e", func := "colloquy/colloquylaw11.ModuleReads", spec := "moduleReads", inPlace := ["internal/reflectlite.ValueOf", "(internal/reflectlite.Value).Type", "(internal/reflectlite.Value).IsNil", "internal/reflectlite.TypeOf", "(internal/reflectlite.Value).Elem", "(internal/reflectlite.Value).Set"], unfollowed := true, recurses := true, named := ["errors.errorType"], apart := false, laid := [("errors.errorType", laid_errors_errorType)], narrowed := true }
def ModuleReadsUptoSaid : Prop := moduleReadsUptoRow.holds Tryz.pinned (OpenSpec.upto moduleReadsSpec)

/-- 'colloquylaw11.ModuleBack', WHERE WHAT IT READS IS OF BULK AT MOST 1048576: true; the input reads as it did. -/
def moduleBackUptoRow : OpenClaim := { program := "ytickblndgihoeaagreatdoor", sum := "32d2f89cc154c60c6eefa73e6b276ffc9bfd18a03d01293f4c657edfa0db8d5e", func := "colloquy/colloquylaw11.ModuleBack", spec := "moduleBack", inPlace := ["internal/reflectlite.TypeOf", "internal/reflectlite.ValueOf", "(internal/reflectlite.Value).Type", "(internal/reflectlite.Value).IsNil", "(internal/reflectlite.Value).Elem", "(internal/reflectlite.Value).Set"], unfollowed := true, recurses := true, named := ["errors.errorType"], apart := false, laid := [("errors.errorType", laid_errors_errorType)], narrowed := true }
def ModuleBackUptoSaid : Prop := moduleBackUptoRow.holds Tryz.pinned (OpenSpec.upto moduleBackSpec)

/-- 'colloquylaw11.ModuleKnown', WHERE WHAT IT READS IS OF BULK AT MOST 1048576: true; the input reads as it did. -/
def moduleKnownUptoRow : OpenClaim := { program := "ytickblndgihoeaagreatdoor", sum := "32d2f89cc154c60c6eefa73e6b276ffc9bfd18a03d01293f4c657edfa0db8d5e", func := "colloquy/colloquylaw11.ModuleKnown", spec := "moduleKnown", inPlace := ["internal/reflectlite.TypeOf", "internal/reflectlite.ValueOf", "(internal/reflectlite.Value).Type", "(internal/reflectlite.Value).IsNil", "(internal/reflectlite.Value).Elem", "(internal/reflectlite.Value).Set"], unfollowed := true, recurses := true, named := ["errors.errorType"], apart := false, laid := [("errors.errorType", laid_errors_errorType)], narrowed := true }
def ModuleKnownUptoSaid : Prop := moduleKnownUptoRow.holds Tryz.pinned (OpenSpec.upto moduleKnownSpec)

/-- 'colloquylaw11.ModuleParts', WHERE WHAT IT READS IS OF BULK AT MOST 1048576: true; the input reads as it did. -/
def modulePartsUptoRow : OpenClaim := { program := "ytickblndgihoeaagreatdoor", sum := "32d2f89cc154c60c6eefa73e6b276ffc9bfd18a03d01293f4c657edfa0db8d5e", func := "colloquy/colloquylaw11.ModuleParts", spec := "moduleParts", inPlace := ["internal/reflectlite.TypeOf", "internal/reflectlite.ValueOf", "(internal/reflectlite.Value).Type", "(internal/reflectlite.Value).IsNil", "(internal/reflectlite.Value).Elem", "(internal/reflectlite.Value).Set"], unfollowed := true, recurses := true, named := ["errors.errorType"], apart := false, laid := [("errors.errorType", laid_errors_errorType)], narrowed := true }
def ModulePartsUptoSaid : Prop := modulePartsUptoRow.holds Tryz.pinned (OpenSpec.upto modulePartsSpec)

end Rows
end Go.Proofs.YtickblndgihoeaaGreatDoor
