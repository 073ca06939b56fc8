/-
  NARROWER THAN 'FOR EVERY INPUT', by the rows' own cells (each row's printed sentence says how): SectSplits: laid · SectJoins: laid · SectBack: laid · SectCuts: laid · SectKnown: laid · InsnReads: laid · InsnCuts: laid · InsnKnown: laid · InsnBack: laid · InsnPuts: laid.
  DERIVED. THE GIVEN ROWS OF THIS SEAT. 10 by the template 'for every input the law returns true; each argument reads behind the call as it read before'; 0 by the template 'total and deterministic' (their statements: YtfelcdbhlahehaaDoorTotals.lean).
  GIVEN WITH THE SEED: the statements are not yours to turn. If you find one false, say at which input.
  Laid BY PROGRAM, IN A SANDBOX (cutbox-rows.mjs): the forced cells as the released guide's own fill.sh prints them over the translation 43ba951f0d34cc85… (all of the seat's roots in one cut). By AI agents, Wed Nov 11 2026. No macro, syntax, notation, axiom, sorry.
-/
import Derived.Test.YtfelcdbhlahehaaDoorChecked
import GoSem.Claim
import GoSem.ClaimJoined
import GoSem.ClaimMapViews
import Derived.JoinedTies
import Derived.KernelRfl
namespace Go.Proofs.YtfelcdbhlahehaaDoor
/- THE CELL 'sum', in the pinned program and in every row, IS THE sha256 OF THE DUMP (.gsa) THAT YtfelcdbhlahehaaDoorProg.lean LOADS. Nothing in Lean hashes anything: it is a label: what it is worth is what the hold of that sum in a sandbox is worth. -/
noncomputable def Tryd.pinned : Pinned := { name := "ytfelcdbhlahehaadoor", sum := "43ba951f0d34cc85b90d3b8bd7ac6854b66053833110a5fbbbbc1a6dde46cfd0", checked := Tryd.checked }
namespace Rows
def none {H : Type} : Left H := { results := [], args := [] }

/- WHAT THE LISTED PACKAGE-LEVEL VARIABLES READ AS WHEN THE CALL BEGINS. Each datum BY PROGRAM (the guide's laid-datum.mjs) off the statement by which the dump's own 'gosem.cut.vars' lays the variable. In a bare row this is a premise. The card (YtfelcdbhlahehaaDoorCards.lean) ties it to the program's text. -/
def laid_errors_errorType {H : Type} : DataW H := .iface "internal/reflectlite.rtype" (.agg [.ptr (.lit (.string [101, 114, 114, 111, 114]))])

/-- 'colloquylaw03.SectSplits': WHATEVER THE INPUT: true; the input reads as it did. -/
def sectSplitsSpec : ChangeSpec := { name := "sectSplits", fn := fun _ => fun
  | [d1, d2, d3] => { results := [.lit (.bool true)], args := [d1, d2, d3] }
  | _ => none }
def sectSplitsRow : OpenClaim := { program := "ytfelcdbhlahehaadoor", sum := "43ba951f0d34cc85b90d3b8bd7ac6854b66053833110a5fbbbbc1a6dde46cfd0", func := "colloquy/colloquylaw03.SectSplits", spec := "sectSplits", inPlace := ["internal/reflectlite.ValueOf", "(internal/reflectlite.Value).Type", "(internal/reflectlite.Value).IsNil", "internal/reflectlite.TypeOf", "(internal/reflectlite.Value).Elem", "(internal/reflectlite.Value).Set"], unfollowed := true, recurses := true, named := ["errors.errorType"], apart := false, laid := [("errors.errorType", laid_errors_errorType)] }
def SectSplitsSaid : Prop := sectSplitsRow.holds Tryd.pinned (OpenSpec.ofChange sectSplitsSpec)

/-- ITS FALSE NEIGHBOUR: 'it returns false'. Refute it at one input. -/
def sectSplitsWrong : ChangeSpec := { name := "sectSplits", fn := fun _ => fun
  | [d1, d2, d3] => { results := [.lit (.bool false)], args := [d1, d2, d3] }
  | _ => none }
def SectSplitsWrongFalsely : Prop := sectSplitsRow.holds Tryd.pinned (OpenSpec.ofChange sectSplitsWrong)

/-- 'colloquylaw03.SectJoins': WHATEVER THE INPUT: true; the input reads as it did. -/
def sectJoinsSpec : ChangeSpec := { name := "sectJoins", fn := fun _ => fun
  | [d1, d2] => { results := [.lit (.bool true)], args := [d1, d2] }
  | _ => none }
def sectJoinsRow : OpenClaim := { program := "ytfelcdbhlahehaadoor", sum := "43ba951f0d34cc85b90d3b8bd7ac6854b66053833110a5fbbbbc1a6dde46cfd0", func := "colloquy/colloquylaw03.SectJoins", spec := "sectJoins", inPlace := ["internal/reflectlite.ValueOf", "(internal/reflectlite.Value).Type", "(internal/reflectlite.Value).IsNil", "internal/reflectlite.TypeOf", "(internal/reflectlite.Value).Elem", "(internal/reflectlite.Value).Set"], unfollowed := true, recurses := true, named := ["errors.errorType"], apart := false, laid := [("errors.errorType", laid_errors_errorType)] }
def SectJoinsSaid : Prop := sectJoinsRow.holds Tryd.pinned (OpenSpec.ofChange sectJoinsSpec)

/-- ITS FALSE NEIGHBOUR: 'it returns false'. Refute it at one input. -/
def sectJoinsWrong : ChangeSpec := { name := "sectJoins", fn := fun _ => fun
  | [d1, d2] => { results := [.lit (.bool false)], args := [d1, d2] }
  | _ => none }
def SectJoinsWrongFalsely : Prop := sectJoinsRow.holds Tryd.pinned (OpenSpec.ofChange sectJoinsWrong)

/-- 'colloquylaw03.SectBack': WHATEVER THE INPUT: true; the input reads as it did. -/
def sectBackSpec : ChangeSpec := { name := "sectBack", fn := fun _ => fun
  | [d1, d2, d3] => { results := [.lit (.bool true)], args := [d1, d2, d3] }
  | _ => none }
def sectBackRow : OpenClaim := { program := "ytfelcdbhlahehaadoor", sum := "43ba951f0d34cc85b90d3b8bd7ac6854b66053833110a5fbbbbc1a6dde46cfd0", func := "colloquy/colloquylaw03.SectBack", spec := "sectBack", inPlace := ["internal/reflectlite.ValueOf", "(internal/reflectlite.Value).Type", "(internal/reflectlite.Value).IsNil", "internal/reflectlite.TypeOf", "(internal/reflectlite.Value).Elem", "(internal/reflectlite.Value).Set"], unfollowed := true, recurses := true, named := ["errors.errorType"], apart := false, laid := [("errors.errorType", laid_errors_errorType)] }
def SectBackSaid : Prop := sectBackRow.holds Tryd.pinned (OpenSpec.ofChange sectBackSpec)

/-- ITS FALSE NEIGHBOUR: 'it returns false'. Refute it at one input. -/
def sectBackWrong : ChangeSpec := { name := "sectBack", fn := fun _ => fun
  | [d1, d2, d3] => { results := [.lit (.bool false)], args := [d1, d2, d3] }
  | _ => none }
def SectBackWrongFalsely : Prop := sectBackRow.holds Tryd.pinned (OpenSpec.ofChange sectBackWrong)

/-- 'colloquylaw03.SectCuts': WHATEVER THE INPUT: true; the input reads as it did. -/
def sectCutsSpec : ChangeSpec := { name := "sectCuts", fn := fun _ => fun
  | [d1, d2, d3] => { results := [.lit (.bool true)], args := [d1, d2, d3] }
  | _ => none }
def sectCutsRow : OpenClaim := { program := "ytfelcdbhlahehaadoor", sum := "43ba951f0d34cc85b90d3b8bd7ac6854b66053833110a5fbbbbc1a6dde46cfd0", func := "colloquy/colloquylaw03.SectCuts", spec := "sectCuts", inPlace := ["internal/reflectlite.ValueOf", "(internal/reflectlite.Value).Type", "(internal/reflectlite.Value).IsNil", "internal/reflectlite.TypeOf", "(internal/reflectlite.Value).Elem", "(internal/reflectlite.Value).Set"], unfollowed := true, recurses := true, named := ["errors.errorType"], apart := false, laid := [("errors.errorType", laid_errors_errorType)] }
def SectCutsSaid : Prop := sectCutsRow.holds Tryd.pinned (OpenSpec.ofChange sectCutsSpec)

/-- ITS FALSE NEIGHBOUR: 'it returns false'. Refute it at one input. -/
def sectCutsWrong : ChangeSpec := { name := "sectCuts", fn := fun _ => fun
  | [d1, d2, d3] => { results := [.lit (.bool false)], args := [d1, d2, d3] }
  | _ => none }
def SectCutsWrongFalsely : Prop := sectCutsRow.holds Tryd.pinned (OpenSpec.ofChange sectCutsWrong)

/-- 'colloquylaw03.SectKnown': WHATEVER THE INPUT: true; the input reads as it did. -/
def sectKnownSpec : ChangeSpec := { name := "sectKnown", fn := fun _ => fun
  | [] => { results := [.lit (.bool true)], args := [] }
  | _ => none }
def sectKnownRow : OpenClaim := { program := "ytfelcdbhlahehaadoor", sum := "43ba951f0d34cc85b90d3b8bd7ac6854b66053833110a5fbbbbc1a6dde46cfd0", func := "colloquy/colloquylaw03.SectKnown", spec := "sectKnown", inPlace := ["internal/reflectlite.ValueOf", "(internal/reflectlite.Value).Type", "(internal/reflectlite.Value).IsNil", "internal/reflectlite.TypeOf", "(internal/reflectlite.Value).Elem", "(internal/reflectlite.Value).Set"], unfollowed := true, recurses := true, named := ["errors.errorType"], apart := false, laid := [("errors.errorType", laid_errors_errorType)] }
def SectKnownSaid : Prop := sectKnownRow.holds Tryd.pinned (OpenSpec.ofChange sectKnownSpec)

/-- ITS FALSE NEIGHBOUR: 'it returns false'. Refute it at one input. -/
def sectKnownWrong : ChangeSpec := { name := "sectKnown", fn := fun _ => fun
  | [] => { results := [.lit (.bool false)], args := [] }
  | _ => none }
def SectKnownWrongFalsely : Prop := sectKnownRow.holds Tryd.pinned (OpenSpec.ofChange sectKnownWrong)

/-- 'colloquylaw09.InsnReads': WHATEVER THE INPUT: true; the input reads as it did. -/
def insnReadsSpec : ChangeSpec := { name := "insnReads", fn := fun _ => fun
  | [d] => { results := [.lit (.bool true)], args := [d] }
  | _ => none }
def insnReadsRow : OpenClaim := { program := "ytfelcdbhlahehaadoor", sum := "43ba951f0d34cc85b90d3b8bd7ac6854b66053833110a5fbbbbc1a6dde46cfd0", func := "colloquy/colloquylaw09.InsnReads", spec := "insnReads", inPlace := ["internal/reflectlite.ValueOf", "(internal/reflectlite.Value).Type", "(internal/reflectlite.Value).IsNil", "internal/reflectlite.TypeOf", "(internal/reflectlite.Value).Elem", "(internal/reflectlite.Value).Set"], unfollowed := true, recurses := true, named := ["errors.errorType"], apart := false, laid := [("errors.errorType", laid_errors_errorType)] }
def InsnReadsSaid : Prop := insnReadsRow.holds Tryd.pinned (OpenSpec.ofChange insnReadsSpec)

/-- ITS FALSE NEIGHBOUR: 'it returns false'. Refute it at one input. -/
def insnReadsWrong : ChangeSpec := { name := "insnReads", fn := fun _ => fun
  | [d] => { results := [.lit (.bool false)], args := [d] }
  | _ => none }
def InsnReadsWrongFalsely : Prop := insnReadsRow.holds Tryd.pinned (OpenSpec.ofChange insnReadsWrong)

/-- 'colloquylaw09.InsnCuts': WHATEVER THE INPUT: true; the input reads as it did. -/
def insnCutsSpec : ChangeSpec := { name := "insnCuts", fn := fun _ => fun
  | [d1, d2] => { results := [.lit (.bool true)], args := [d1, d2] }
  | _ => none }
def insnCutsRow : OpenClaim := { program := "ytfelcdbhlahehaadoor", sum := "43ba951f0d34cc85b90d3b8bd7ac6854b66053833110a5fbbbbc1a6dde46cfd0", func := "colloquy/colloquylaw09.InsnCuts", spec := "insnCuts", inPlace := ["internal/reflectlite.ValueOf", "(internal/reflectlite.Value).Type", "(internal/reflectlite.Value).IsNil", "internal/reflectlite.TypeOf", "(internal/reflectlite.Value).Elem", "(internal/reflectlite.Value).Set"], unfollowed := true, recurses := true, named := ["errors.errorType"], apart := false, laid := [("errors.errorType", laid_errors_errorType)] }
def InsnCutsSaid : Prop := insnCutsRow.holds Tryd.pinned (OpenSpec.ofChange insnCutsSpec)

/-- ITS FALSE NEIGHBOUR: 'it returns false'. Refute it at one input. -/
def insnCutsWrong : ChangeSpec := { name := "insnCuts", fn := fun _ => fun
  | [d1, d2] => { results := [.lit (.bool false)], args := [d1, d2] }
  | _ => none }
def InsnCutsWrongFalsely : Prop := insnCutsRow.holds Tryd.pinned (OpenSpec.ofChange insnCutsWrong)

/-- 'colloquylaw09.InsnKnown': WHATEVER THE INPUT: true; the input reads as it did. -/
def insnKnownSpec : ChangeSpec := { name := "insnKnown", fn := fun _ => fun
  | [] => { results := [.lit (.bool true)], args := [] }
  | _ => none }
def insnKnownRow : OpenClaim := { program := "ytfelcdbhlahehaadoor", sum := "43ba951f0d34cc85b90d3b8bd7ac6854b66053833110a5fbbbbc1a6dde46cfd0", func := "colloquy/colloquylaw09.InsnKnown", spec := "insnKnown", inPlace := ["internal/reflectlite.ValueOf", "(internal/reflectlite.Value).Type", "(internal/reflectlite.Value).IsNil", "internal/reflectlite.TypeOf", "(internal/reflectlite.Value).Elem", "(internal/reflectlite.Value).Set"], unfollowed := true, recurses := true, named := ["errors.errorType"], apart := false, laid := [("errors.errorType", laid_errors_errorType)] }
def InsnKnownSaid : Prop := insnKnownRow.holds Tryd.pinned (OpenSpec.ofChange insnKnownSpec)

/-- ITS FALSE NEIGHBOUR: 'it returns false'. Refute it at one input. -/
def insnKnownWrong : ChangeSpec := { name := "insnKnown", fn := fun _ => fun
  | [] => { results := [.lit (.bool false)], args := [] }
  | _ => none }
def InsnKnownWrongFalsely : Prop := insnKnownRow.holds Tryd.pinned (OpenSpec.ofChange insnKnownWrong)

/-- 'colloquylaw09.InsnBack': WHATEVER THE INPUT: true; the input reads as it did. -/
def insnBackSpec : ChangeSpec := { name := "insnBack", fn := fun _ => fun
  | [d1, d2] => { results := [.lit (.bool true)], args := [d1, d2] }
  | _ => none }
def insnBackRow : OpenClaim := { program := "ytfelcdbhlahehaadoor", sum := "43ba951f0d34cc85b90d3b8bd7ac6854b66053833110a5fbbbbc1a6dde46cfd0", func := "colloquy/colloquylaw09.InsnBack", spec := "insnBack", inPlace := ["internal/reflectlite.ValueOf", "(internal/reflectlite.Value).Type", "(internal/reflectlite.Value).IsNil", "internal/reflectlite.TypeOf", "(internal/reflectlite.Value).Elem", "(internal/reflectlite.Value).Set"], unfollowed := true, recurses := true, named := ["errors.errorType"], apart := false, laid := [("errors.errorType", laid_errors_errorType)] }
def InsnBackSaid : Prop := insnBackRow.holds Tryd.pinned (OpenSpec.ofChange insnBackSpec)

/-- ITS FALSE NEIGHBOUR: 'it returns false'. Refute it at one input. -/
def insnBackWrong : ChangeSpec := { name := "insnBack", fn := fun _ => fun
  | [d1, d2] => { results := [.lit (.bool false)], args := [d1, d2] }
  | _ => none }
def InsnBackWrongFalsely : Prop := insnBackRow.holds Tryd.pinned (OpenSpec.ofChange insnBackWrong)

/-- 'colloquylaw09.InsnPuts': WHATEVER THE INPUT: true; the input reads as it did. -/
def insnPutsSpec : ChangeSpec := { name := "insnPuts", fn := fun _ => fun
  | [d1, d2, d3] => { results := [.lit (.bool true)], args := [d1, d2, d3] }
  | _ => none }
def insnPutsRow : OpenClaim := { program := "ytfelcdbhlahehaadoor", sum := "43ba951f0d34cc85b90d3b8bd7ac6854b66053833110a5fbbbbc1a6dde46cfd0", func := "colloquy/colloquylaw09.InsnPuts", spec := "insnPuts", inPlace := ["internal/reflectlite.ValueOf", "(internal/reflectlite.Value).Type", "(internal/reflectlite.Value).IsNil", "internal/reflectlite.TypeOf", "(internal/reflectlite.Value).Elem", "(internal/reflectlite.Value).Set"], unfollowed := true, recurses := true, named := ["errors.errorType"], apart := false, laid := [("errors.errorType", laid_errors_errorType)] }
def InsnPutsSaid : Prop := insnPutsRow.holds Tryd.pinned (OpenSpec.ofChange insnPutsSpec)

/-- ITS FALSE NEIGHBOUR: 'it returns false'. Refute it at one input. -/
def insnPutsWrong : ChangeSpec := { name := "insnPuts", fn := fun _ => fun
  | [d1, d2, d3] => { results := [.lit (.bool false)], args := [d1, d2, d3] }
  | _ => none }
def InsnPutsWrongFalsely : Prop := insnPutsRow.holds Tryd.pinned (OpenSpec.ofChange insnPutsWrong)

/- THE SECOND FORM. 'bulk': how many values and letters a reading holds, each counted each time it is reached (what is shared counts as often as it is met; a slice's spare places count too). A statement '..UptoSaid' is the law's where the arguments, and the package variables that the reading takes, are together of bulk at most 1048576: NARROWER than '..Said'. Prove '..Said' where nothing that the law and all that it calls make is longer than what came in: it says more and counts as full. Else prove '..UptoSaid'. A law counts once. -/
mutual
def uptoBulk {H : Type} : DataW H → Nat
  | .lit (.string bytes) => bytes.length + 1
  | .lit _ => 1
  | .nil => 1
  | .ptr d => uptoBulk d + 1
  | .slice elems spare => uptoBulkAll elems + uptoBulkAll spare + 1
  | .agg parts => uptoBulkAll parts + 1
  | .iface _ d => uptoBulk d + 1
  | .map entries => uptoBulkEntries entries + 1
  | .held _ => 1
def uptoBulkAll {H : Type} : List (DataW H) → Nat
  | [] => 0
  | d :: r => uptoBulk d + uptoBulkAll r
def uptoBulkEntries {H : Type} : List (Lit × DataW H) → Nat
  | [] => 0
  | x :: r => uptoBulkEntry x + uptoBulkEntries r
def uptoBulkEntry {H : Type} : Lit × DataW H → Nat
  | (.string bytes, d) => bytes.length + uptoBulk d + 1
  | (_, d) => uptoBulk d + 1
 end
def uptoSmall : (H : Type) → List (DataW H) → Bool := fun _ ds => decide (uptoBulkAll ds ≤ 1048576)
def OpenSpec.upto (s : _root_.Go.ChangeSpec) : _root_.Go.OpenSpec := { _root_.Go.OpenSpec.ofChange s with cond := some uptoSmall }

/-- 'colloquylaw03.SectSplits', WHERE WHAT IT READS IS OF BULK AT MOST 1048576: true; the input reads as it did. -/
def sectSplitsUptoRow : OpenClaim := { program := "ytfelcdbhlahehaadoor", sum := "43ba951f0d34cc85b90d3b8bd7ac6854b66053833110a5fbbbbc1a6dde46cfd0", func := "colloquy/colloquylaw03.SectSplits", spec := "sectSplits", inPlace := ["internal/reflectlite.ValueOf", "(internal/reflectlite.Value).Type", "(internal/reflectlite.Value).IsNil", "internal/reflectlite.TypeOf", "(internal/reflectlite.Value).Elem", "(internal/reflectlite.Value).Set"], unfollowed := true, recurses := true, named := ["errors.errorType"], apart := false, laid := [("errors.errorType", laid_errors_errorType)], narrowed := true }
def SectSplitsUptoSaid : Prop := sectSplitsUptoRow.holds Tryd.pinned (OpenSpec.upto sectSplitsSpec)

/-- 'colloquylaw03.SectJoins', WHERE WHAT IT READS IS OF BULK AT MOST 1048576: true; the input reads as it did. -/
def sectJoinsUptoRow : OpenClaim := { program := "ytfelcdbhlahehaadoor", sum := "43ba951f0d34cc85b90d3b8bd7ac6854b66053833110a5fbbbbc1a6dde46cfd0", func := "colloquy/colloquylaw03.SectJoins", spec := "sectJoins", inPlace := ["internal/reflectlite.ValueOf", "(internal/reflectlite.Value).Type", "(internal/reflectlite.Value).IsNil", "internal/reflectlite.TypeOf", "(internal/reflectlite.Value).Elem", "(internal/reflectlite.Value).Set"], unfollowed := true, recurses := true, named := ["errors.errorType"], apart := false, laid := [("errors.errorType", laid_errors_errorType)], narrowed := true }
def SectJoinsUptoSaid : Prop := sectJoinsUptoRow.holds Tryd.pinned (OpenSpec.upto sectJoinsSpec)

/-- 'colloquylaw03.SectBack', WHERE WHAT IT READS IS OF BULK AT MOST 1048576: true; the input reads as it did. -/
def sectBackUptoRow : OpenClaim := { program := "ytfelcdbhlahehaadoor", sum := "43ba951f0d34cc85b90d3b8bd7ac6854b66053833110a5fbbbbc1a6dde46cfd0", func := "colloquy/colloquylaw03.SectBack", spec := "sectBack", inPlace := ["internal/reflectlite.ValueOf", "(internal/reflectlite.Value).Type", "(internal/reflectlite.Value).IsNil", "internal/reflectlite.TypeOf", "(internal/reflectlite.Value).Elem", "(internal/reflectlite.Value).Set"], unfollowed := true, recurses := true, named := ["errors.errorType"], apart := false, laid := [("errors.errorType", laid_errors_errorType)], narrowed := true }
def SectBackUptoSaid : Prop := sectBackUptoRow.holds Tryd.pinned (OpenSpec.upto sectBackSpec)

/-- 'colloquylaw03.SectCuts', WHERE WHAT IT READS IS OF BULK AT MOST 1048576: true; the input reads as it did. -/
def sectCutsUptoRow : OpenClaim := { program := "ytfelcdbhlahehaadoor", sum := "43ba951f0d34cc85b90d3b8bd7ac6854b66053833110a5fbbbbc1a6dde46cfd0", func := "colloquy/colloquylaw03.SectCuts", spec := "sectCuts", inPlace := ["internal/reflectlite.ValueOf", "(internal/reflectlite.Value).Type", "(internal/reflectlite.Value).IsNil", "internal/reflectlite.TypeOf", "(internal/reflectlite.Value).Elem", "(internal/reflectlite.Value).Set"], unfollowed := true, recurses := true, named := ["errors.errorType"], apart := false, laid := [("errors.errorType", laid_errors_errorType)], narrowed := true }
def SectCutsUptoSaid : Prop := sectCutsUptoRow.holds Tryd.pinned (OpenSpec.upto sectCutsSpec)

/-- 'colloquylaw03.SectKnown', WHERE WHAT IT READS IS OF BULK AT MOST 1048576: true; the input reads as it did. -/
def sectKnownUptoRow : OpenClaim := { program := "ytfelcdbhlahehaadoor", sum := "43ba951f0d34cc85b90d3b8bd7ac6854b66053833110a5fbbbbc1a6dde46cfd0", func := "colloquy/colloquylaw03.SectKnown", spec := "sectKnown", inPlace := ["internal/reflectlite.ValueOf", "(internal/reflectlite.Value).Type", "(internal/reflectlite.Value).IsNil", "internal/reflectlite.TypeOf", "(internal/reflectlite.Value).Elem", "(internal/reflectlite.Value).Set"], unfollowed := true, recurses := true, named := ["errors.errorType"], apart := false, laid := [("errors.errorType", laid_errors_errorType)], narrowed := true }
def SectKnownUptoSaid : Prop := sectKnownUptoRow.holds Tryd.pinned (OpenSpec.upto sectKnownSpec)

/-- 'colloquylaw09.InsnReads', WHERE WHAT IT READS IS OF BULK AT MOST 1048576: true; the input reads as it did. -/
def insnReadsUptoRow : OpenClaim := { program := "ytfelcdbhlahehaadoor", sum := "43ba951f0d34cc85b90d3b8bd7ac6854b66053833110a5fbbbbc1a6dde46cfd0", func := "colloquy/colloquylaw09.InsnReads", spec := "insnReads", inPlace := ["internal/reflectlite.ValueOf", "(internal/reflectlite.Value).Type", "(internal/reflectlite.Value).IsNil", "internal/reflectlite.TypeOf", "(internal/reflectlite.Value).Elem", "(internal/reflectlite.Value).Set"], unfollowed := true, recurses := true, named := ["errors.errorType"], apart := false, laid := [("errors.errorType", laid_errors_errorType)], narrowed := true }
def InsnReadsUptoSaid : Prop := insnReadsUptoRow.holds Tryd.pinned (OpenSpec.upto insnReadsSpec)

/-- 'colloquylaw09.InsnCuts', WHERE WHAT IT READS IS OF BULK AT MOST 1048576: true; the input reads as it did. -/
def insnCutsUptoRow : OpenClaim := { program := "ytfelcdbhlahehaadoor", sum := "43ba951f0d34cc85b90d3b8bd7ac6854b66053833110a5fbbbbc1a6dde46cfd0", func := "colloquy/colloquylaw09.InsnCuts", spec := "insnCuts", inPlace := ["internal/reflectlite.ValueOf", "(internal/reflectlite.Value).Type", "(internal/reflectlite.Value).IsNil", "internal/reflectlite.TypeOf", "(internal/reflectlite.Value).Elem", "(internal/reflectlite.Value).Set"], unfollowed := true, recurses := true, named := ["errors.errorType"], apart := false, laid := [("errors.errorType", laid_errors_errorType)], narrowed := true }
def InsnCutsUptoSaid : Prop := insnCutsUptoRow.holds Tryd.pinned (OpenSpec.upto insnCutsSpec)

/-- 'colloquylaw09.InsnKnown', WHERE WHAT IT READS IS OF BULK AT MOST 1048576: true; the input reads as it did. -/
def insnKnownUptoRow : OpenClaim := { program := "ytfelcdbhlahehaadoor", sum := "43ba951f0d34cc85b90d3b8bd7ac6854b66053833110a5fbbbbc1a6dde46cfd0", func := "colloquy/colloquylaw09.InsnKnown", spec := "insnKnown", inPlace := ["internal/reflectlite.ValueOf", "(internal/reflectlite.Value).Type", "(internal/reflectlite.Value).IsNil", "internal/reflectlite.TypeOf", "(internal/reflectlite.Value).Elem", "(internal/reflectlite.Value).Set"], unfollowed := true, recurses := true, named := ["errors.errorType"], apart := false, laid := [("errors.errorType", laid_errors_errorType)], narrowed := true }
def InsnKnownUptoSaid : Prop := insnKnownUptoRow.holds Tryd.pinned (OpenSpec.upto insnKnownSpec)

/-- 'colloquylaw09.InsnBack', WHERE WHAT IT READS IS OF BULK AT MOST 1048576: true; the input reads as it did. -/
def insnBackUptoRow : OpenClaim := { program := "ytfelcdbhlahehaadoor", sum := "43ba951f0d34cc85b90d3b8bd7ac6854b66053833110a5fbbbbc1a6dde46cfd0", func := "colloquy/colloquylaw09.InsnBack", spec := "insnBack", inPlace := ["internal/reflectlite.ValueOf", "(internal/reflectlite.Value).Type", "(internal/reflectlite.Value).IsNil", "internal/reflectlite.TypeOf", "(internal/reflectlite.Value).Elem", "(internal/reflectlite.Value).Set"], unfollowed := true, recurses := true, named := ["errors.errorType"], apart := false, laid := [("errors.errorType", laid_errors_errorType)], narrowed := true }
def InsnBackUptoSaid : Prop := insnBackUptoRow.holds Tryd.pinned (OpenSpec.upto insnBackSpec)

/-- 'colloquylaw09.InsnPuts', WHERE WHAT IT READS IS OF BULK AT MOST 1048576: true; the input reads as it did. -/
def insnPutsUptoRow : OpenClaim := { program := "ytfelcdbhlahehaadoor", sum := "43ba951f0d34cc85b90d3b8bd7ac6854b66053833110a5fbbbbc1a6dde46cfd0", func := "colloquy/colloquylaw09.InsnPuts", spec := "insnPuts", inPlace := ["internal/reflectlite.ValueOf", "(internal/reflectlite.Value).Type", "(internal/reflectlite.Value).IsNil", "internal/reflectlite.TypeOf", "(internal/reflectlite.Value).Elem", "(internal/reflectlite.Value).Set"], unfollowed := true, recurses := true, named := ["errors.errorType"], apart := false, laid := [("errors.errorType", laid_errors_errorType)], narrowed := true }
def InsnPutsUptoSaid : Prop := insnPutsUptoRow.holds Tryd.pinned (OpenSpec.upto insnPutsSpec)

end Rows
end Go.Proofs.YtfelcdbhlahehaaDoor
