/-
  NARROWER THAN 'FOR EVERY INPUT', by the rows' own cells (each row's printed sentence says how): PipeCopies: laid · PipeWays: laid · PipeLoses: laid · PipeTells: laid · PipeHides: laid · PipeCounts: laid · PipeReads: laid · PipeFits: laid.
  DERIVED. THE GIVEN ROWS OF THIS SEAT. 8 by the template 'for every input the law returns true; each argument reads behind the call as it read before'; 0 by the template 'total and deterministic' (their statements: YtigfgdefgnahpaaDoorTotals.lean).
  GIVEN WITH THE SEED: the statements are not yours to turn. If you find one false, say at which input.
  Laid BY PROGRAM, IN A SANDBOX (cutbox-rows.mjs): the forced cells as the released guide's own fill.sh prints them over the translation 15c0126665939695… (all of the seat's roots in one cut). By AI agents, Wed Nov 11 2026. No macro, syntax, notation, axiom, sorry.
-/
import Derived.Test.YtigfgdefgnahpaaDoorChecked
import GoSem.Claim
import GoSem.ClaimJoined
import GoSem.ClaimMapViews
import Derived.JoinedTies
import Derived.KernelRfl
namespace Go.Proofs.YtigfgdefgnahpaaDoor
/- THE CELL 'sum', in the pinned program and in every row, IS THE sha256 OF THE DUMP (.gsa) THAT YtigfgdefgnahpaaDoorProg.lean LOADS. Nothing in Lean hashes anything: it is a label: what it is worth is what the hold of that sum in a sandbox is worth. -/
noncomputable def Tryd.pinned : Pinned := { name := "ytigfgdefgnahpaadoor", sum := "15c01266659396958e0991e2089dbcd00193cc67e2f9c337d073c756a61a4bdd", checked := Tryd.checked }
namespace Rows
def none {H : Type} : Left H := { results := [], args := [] }

/- WHAT THE LISTED PACKAGE-LEVEL VARIABLES READ AS WHEN THE CALL BEGINS. Each datum BY PROGRAM (the guide's laid-datum.mjs) off the statement by which the dump's own 'gosem.cut.vars' lays the variable. In a bare row this is a premise. The card (YtigfgdefgnahpaaDoorCards.lean) ties it to the program's text. -/
def laid_errors_errorType {H : Type} : DataW H := .iface "internal/reflectlite.rtype" (.agg [.ptr (.lit (.string [101, 114, 114, 111, 114]))])
def laid_conduit_pipe_errEOF {H : Type} : DataW H := .iface "*errors.errorString" (.ptr (.agg [.lit (.string [101, 110, 100])]))

/-- 'conduitlaw36.PipeCopies': WHATEVER THE INPUT: true; the input reads as it did. -/
def pipeCopiesSpec : ChangeSpec := { name := "pipeCopies", fn := fun _ => fun
  | [d1, d2, d3] => { results := [.lit (.bool true)], args := [d1, d2, d3] }
  | _ => none }
def pipeCopiesRow : OpenClaim := { program := "ytigfgdefgnahpaadoor", sum := "15c01266659396958e0991e2089dbcd00193cc67e2f9c337d073c756a61a4bdd", func := "conduit/conduitlaw36.PipeCopies", spec := "pipeCopies", inPlace := ["internal/reflectlite.ValueOf", "(internal/reflectlite.Value).Type", "(internal/reflectlite.Value).IsNil", "internal/reflectlite.TypeOf", "(internal/reflectlite.Value).Elem", "(internal/reflectlite.Value).Set"], unfollowed := true, recurses := true, named := ["conduit/pipe.errEOF", "errors.errorType"], apart := false, laid := [("errors.errorType", laid_errors_errorType), ("conduit/pipe.errEOF", laid_conduit_pipe_errEOF)] }
def PipeCopiesSaid : Prop := pipeCopiesRow.holds Tryd.pinned (OpenSpec.ofChange pipeCopiesSpec)

/-- ITS FALSE NEIGHBOUR: 'it returns false'. Refute it at one input. -/
def pipeCopiesWrong : ChangeSpec := { name := "pipeCopies", fn := fun _ => fun
  | [d1, d2, d3] => { results := [.lit (.bool false)], args := [d1, d2, d3] }
  | _ => none }
def PipeCopiesWrongFalsely : Prop := pipeCopiesRow.holds Tryd.pinned (OpenSpec.ofChange pipeCopiesWrong)

/-- 'conduitlaw36.PipeWays': WHATEVER THE INPUT: true; the input reads as it did. -/
def pipeWaysSpec : ChangeSpec := { name := "pipeWays", fn := fun _ => fun
  | [d1, d2, d3, d4] => { results := [.lit (.bool true)], args := [d1, d2, d3, d4] }
  | _ => none }
def pipeWaysRow : OpenClaim := { program := "ytigfgdefgnahpaadoor", sum := "15c01266659396958e0991e2089dbcd00193cc67e2f9c337d073c756a61a4bdd", func := "conduit/conduitlaw36.PipeWays", spec := "pipeWays", inPlace := ["internal/reflectlite.ValueOf", "(internal/reflectlite.Value).Type", "(internal/reflectlite.Value).IsNil", "internal/reflectlite.TypeOf", "(internal/reflectlite.Value).Elem", "(internal/reflectlite.Value).Set"], unfollowed := true, recurses := true, named := ["conduit/pipe.errEOF", "errors.errorType"], apart := false, laid := [("errors.errorType", laid_errors_errorType), ("conduit/pipe.errEOF", laid_conduit_pipe_errEOF)] }
def PipeWaysSaid : Prop := pipeWaysRow.holds Tryd.pinned (OpenSpec.ofChange pipeWaysSpec)

/-- ITS FALSE NEIGHBOUR: 'it returns false'. Refute it at one input. -/
def pipeWaysWrong : ChangeSpec := { name := "pipeWays", fn := fun _ => fun
  | [d1, d2, d3, d4] => { results := [.lit (.bool false)], args := [d1, d2, d3, d4] }
  | _ => none }
def PipeWaysWrongFalsely : Prop := pipeWaysRow.holds Tryd.pinned (OpenSpec.ofChange pipeWaysWrong)

/-- 'conduitlaw36.PipeLoses': WHATEVER THE INPUT: true; the input reads as it did. -/
def pipeLosesSpec : ChangeSpec := { name := "pipeLoses", fn := fun _ => fun
  | [d1, d2, d3] => { results := [.lit (.bool true)], args := [d1, d2, d3] }
  | _ => none }
def pipeLosesRow : OpenClaim := { program := "ytigfgdefgnahpaadoor", sum := "15c01266659396958e0991e2089dbcd00193cc67e2f9c337d073c756a61a4bdd", func := "conduit/conduitlaw36.PipeLoses", spec := "pipeLoses", inPlace := ["internal/reflectlite.ValueOf", "(internal/reflectlite.Value).Type", "(internal/reflectlite.Value).IsNil", "internal/reflectlite.TypeOf", "(internal/reflectlite.Value).Elem", "(internal/reflectlite.Value).Set"], unfollowed := true, recurses := true, named := ["conduit/pipe.errEOF", "errors.errorType"], apart := false, laid := [("errors.errorType", laid_errors_errorType), ("conduit/pipe.errEOF", laid_conduit_pipe_errEOF)] }
def PipeLosesSaid : Prop := pipeLosesRow.holds Tryd.pinned (OpenSpec.ofChange pipeLosesSpec)

/-- ITS FALSE NEIGHBOUR: 'it returns false'. Refute it at one input. -/
def pipeLosesWrong : ChangeSpec := { name := "pipeLoses", fn := fun _ => fun
  | [d1, d2, d3] => { results := [.lit (.bool false)], args := [d1, d2, d3] }
  | _ => none }
def PipeLosesWrongFalsely : Prop := pipeLosesRow.holds Tryd.pinned (OpenSpec.ofChange pipeLosesWrong)

/-- 'conduitlaw36.PipeTells': WHATEVER THE INPUT: true; the input reads as it did. -/
def pipeTellsSpec : ChangeSpec := { name := "pipeTells", fn := fun _ => fun
  | [d1, d2, d3] => { results := [.lit (.bool true)], args := [d1, d2, d3] }
  | _ => none }
def pipeTellsRow : OpenClaim := { program := "ytigfgdefgnahpaadoor", sum := "15c01266659396958e0991e2089dbcd00193cc67e2f9c337d073c756a61a4bdd", func := "conduit/conduitlaw36.PipeTells", spec := "pipeTells", inPlace := ["internal/reflectlite.ValueOf", "(internal/reflectlite.Value).Type", "(internal/reflectlite.Value).IsNil", "internal/reflectlite.TypeOf", "(internal/reflectlite.Value).Elem", "(internal/reflectlite.Value).Set"], unfollowed := true, recurses := true, named := ["conduit/pipe.errEOF", "errors.errorType"], apart := false, laid := [("errors.errorType", laid_errors_errorType), ("conduit/pipe.errEOF", laid_conduit_pipe_errEOF)] }
def PipeTellsSaid : Prop := pipeTellsRow.holds Tryd.pinned (OpenSpec.ofChange pipeTellsSpec)

/-- ITS FALSE NEIGHBOUR: 'it returns false'. Refute it at one input. -/
def pipeTellsWrong : ChangeSpec := { name := "pipeTells", fn := fun _ => fun
  | [d1, d2, d3] => { results := [.lit (.bool false)], args := [d1, d2, d3] }
  | _ => none }
def PipeTellsWrongFalsely : Prop := pipeTellsRow.holds Tryd.pinned (OpenSpec.ofChange pipeTellsWrong)

/-- 'conduitlaw36.PipeHides': WHATEVER THE INPUT: true; the input reads as it did. -/
def pipeHidesSpec : ChangeSpec := { name := "pipeHides", fn := fun _ => fun
  | [d1, d2, d3] => { results := [.lit (.bool true)], args := [d1, d2, d3] }
  | _ => none }
def pipeHidesRow : OpenClaim := { program := "ytigfgdefgnahpaadoor", sum := "15c01266659396958e0991e2089dbcd00193cc67e2f9c337d073c756a61a4bdd", func := "conduit/conduitlaw36.PipeHides", spec := "pipeHides", inPlace := ["internal/reflectlite.ValueOf", "(internal/reflectlite.Value).Type", "(internal/reflectlite.Value).IsNil", "internal/reflectlite.TypeOf", "(internal/reflectlite.Value).Elem", "(internal/reflectlite.Value).Set"], unfollowed := true, recurses := true, named := ["conduit/pipe.errEOF", "errors.errorType"], apart := false, laid := [("errors.errorType", laid_errors_errorType), ("conduit/pipe.errEOF", laid_conduit_pipe_errEOF)] }
def PipeHidesSaid : Prop := pipeHidesRow.holds Tryd.pinned (OpenSpec.ofChange pipeHidesSpec)

/-- ITS FALSE NEIGHBOUR: 'it returns false'. Refute it at one input. -/
def pipeHidesWrong : ChangeSpec := { name := "pipeHides", fn := fun _ => fun
  | [d1, d2, d3] => { results := [.lit (.bool false)], args := [d1, d2, d3] }
  | _ => none }
def PipeHidesWrongFalsely : Prop := pipeHidesRow.holds Tryd.pinned (OpenSpec.ofChange pipeHidesWrong)

/-- 'conduitlaw36.PipeCounts': WHATEVER THE INPUT: true; the input reads as it did. -/
def pipeCountsSpec : ChangeSpec := { name := "pipeCounts", fn := fun _ => fun
  | [d1, d2, d3, d4] => { results := [.lit (.bool true)], args := [d1, d2, d3, d4] }
  | _ => none }
def pipeCountsRow : OpenClaim := { program := "ytigfgdefgnahpaadoor", sum := "15c01266659396958e0991e2089dbcd00193cc67e2f9c337d073c756a61a4bdd", func := "conduit/conduitlaw36.PipeCounts", spec := "pipeCounts", inPlace := ["internal/reflectlite.ValueOf", "(internal/reflectlite.Value).Type", "(internal/reflectlite.Value).IsNil", "internal/reflectlite.TypeOf", "(internal/reflectlite.Value).Elem", "(internal/reflectlite.Value).Set"], unfollowed := true, recurses := true, named := ["conduit/pipe.errEOF", "errors.errorType"], apart := false, laid := [("errors.errorType", laid_errors_errorType), ("conduit/pipe.errEOF", laid_conduit_pipe_errEOF)] }
def PipeCountsSaid : Prop := pipeCountsRow.holds Tryd.pinned (OpenSpec.ofChange pipeCountsSpec)

/-- ITS FALSE NEIGHBOUR: 'it returns false'. Refute it at one input. -/
def pipeCountsWrong : ChangeSpec := { name := "pipeCounts", fn := fun _ => fun
  | [d1, d2, d3, d4] => { results := [.lit (.bool false)], args := [d1, d2, d3, d4] }
  | _ => none }
def PipeCountsWrongFalsely : Prop := pipeCountsRow.holds Tryd.pinned (OpenSpec.ofChange pipeCountsWrong)

/-- 'conduitlaw36.PipeReads': WHATEVER THE INPUT: true; the input reads as it did. -/
def pipeReadsSpec : ChangeSpec := { name := "pipeReads", fn := fun _ => fun
  | [d1, d2, d3] => { results := [.lit (.bool true)], args := [d1, d2, d3] }
  | _ => none }
def pipeReadsRow : OpenClaim := { program := "ytigfgdefgnahpaadoor", sum := "15c01266659396958e0991e2089dbcd00193cc67e2f9c337d073c756a61a4bdd", func := "conduit/conduitlaw36.PipeReads", spec := "pipeReads", inPlace := ["internal/reflectlite.ValueOf", "(internal/reflectlite.Value).Type", "(internal/reflectlite.Value).IsNil", "internal/reflectlite.TypeOf", "(internal/reflectlite.Value).Elem", "(internal/reflectlite.Value).Set"], unfollowed := true, recurses := true, named := ["conduit/pipe.errEOF", "errors.errorType"], apart := false, laid := [("errors.errorType", laid_errors_errorType), ("conduit/pipe.errEOF", laid_conduit_pipe_errEOF)] }
def PipeReadsSaid : Prop := pipeReadsRow.holds Tryd.pinned (OpenSpec.ofChange pipeReadsSpec)

/-- ITS FALSE NEIGHBOUR: 'it returns false'. Refute it at one input. -/
def pipeReadsWrong : ChangeSpec := { name := "pipeReads", fn := fun _ => fun
  | [d1, d2, d3] => { results := [.lit (.bool false)], args := [d1, d2, d3] }
  | _ => none }
def PipeReadsWrongFalsely : Prop := pipeReadsRow.holds Tryd.pinned (OpenSpec.ofChange pipeReadsWrong)

/-- 'conduitlaw36.PipeFits': WHATEVER THE INPUT: true; the input reads as it did. -/
def pipeFitsSpec : ChangeSpec := { name := "pipeFits", fn := fun _ => fun
  | [d1, d2] => { results := [.lit (.bool true)], args := [d1, d2] }
  | _ => none }
def pipeFitsRow : OpenClaim := { program := "ytigfgdefgnahpaadoor", sum := "15c01266659396958e0991e2089dbcd00193cc67e2f9c337d073c756a61a4bdd", func := "conduit/conduitlaw36.PipeFits", spec := "pipeFits", inPlace := ["internal/reflectlite.ValueOf", "(internal/reflectlite.Value).Type", "(internal/reflectlite.Value).IsNil", "internal/reflectlite.TypeOf", "(internal/reflectlite.Value).Elem", "(internal/reflectlite.Value).Set"], unfollowed := true, recurses := true, named := ["conduit/pipe.errEOF", "errors.errorType"], apart := false, laid := [("errors.errorType", laid_errors_errorType), ("conduit/pipe.errEOF", laid_conduit_pipe_errEOF)] }
def PipeFitsSaid : Prop := pipeFitsRow.holds Tryd.pinned (OpenSpec.ofChange pipeFitsSpec)

/-- ITS FALSE NEIGHBOUR: 'it returns false'. Refute it at one input. -/
def pipeFitsWrong : ChangeSpec := { name := "pipeFits", fn := fun _ => fun
  | [d1, d2] => { results := [.lit (.bool false)], args := [d1, d2] }
  | _ => none }
def PipeFitsWrongFalsely : Prop := pipeFitsRow.holds Tryd.pinned (OpenSpec.ofChange pipeFitsWrong)

/- THE SECOND FORM. 'bulk': how many values and letters a reading holds, each counted each time it is reached (what is shared counts as often as it is met; a slice's spare places count too). A statement '..UptoSaid' is the law's where the arguments, and the package variables that the reading takes, are together of bulk at most 1048576: NARROWER than '..Said'. Prove '..Said' where nothing that the law and all that it calls make is longer than what came in: it says more and counts as full. Else prove '..UptoSaid'. A law counts once. -/
mutual
def uptoBulk {H : Type} : DataW H → Nat
  | .lit (.string bytes) => bytes.length + 1
  | .lit _ => 1
  | .nil => 1
  | .ptr d => uptoBulk d + 1
  | .slice elems spare => uptoBulkAll elems + uptoBulkAll spare + 1
  | .agg parts => uptoBulkAll parts + 1
  | .iface _ d => uptoBulk d + 1
  | .map entries => uptoBulkEntries entries + 1
  | .held _ => 1
def uptoBulkAll {H : Type} : List (DataW H) → Nat
  | [] => 0
  | d :: r => uptoBulk d + uptoBulkAll r
def uptoBulkEntries {H : Type} : List (Lit × DataW H) → Nat
  | [] => 0
  | x :: r => uptoBulkEntry x + uptoBulkEntries r
def uptoBulkEntry {H : Type} : Lit × DataW H → Nat
  | (.string bytes, d) => bytes.length + uptoBulk d + 1
  | (_, d) => uptoBulk d + 1
 end
def uptoSmall : (H : Type) → List (DataW H) → Bool := fun _ ds => decide (uptoBulkAll ds ≤ 1048576)
def OpenSpec.upto (s : _root_.Go.ChangeSpec) : _root_.Go.OpenSpec := { _root_.Go.OpenSpec.ofChange s with cond := some uptoSmall }

/-- 'conduitlaw36.PipeCopies', WHERE WHAT IT READS IS OF BULK AT MOST 1048576: true; the input reads as it did. -/
def pipeCopiesUptoRow : OpenClaim := { program := "ytigfgdefgnahpaadoor", sum := "15c01266659396958e0991e2089dbcd00193cc67e2f9c337d073c756a61a4bdd", func := "conduit/conduitlaw36.PipeCopies", spec := "pipeCopies", inPlace := ["internal/reflectlite.ValueOf", "(internal/reflectlite.Value).Type", "(internal/reflectlite.Value).IsNil", "internal/reflectlite.TypeOf", "(internal/reflectlite.Value).Elem", "(internal/reflectlite.Value).Set"], unfollowed := true, recurses := true, named := ["conduit/pipe.errEOF", "errors.errorType"], apart := false, laid := [("errors.errorType", laid_errors_errorType), ("conduit/pipe.errEOF", laid_conduit_pipe_errEOF)], narrowed := true }
def PipeCopiesUptoSaid : Prop := pipeCopiesUptoRow.holds Tryd.pinned (OpenSpec.upto pipeCopiesSpec)

/-- 'conduitlaw36.PipeWays', WHERE WHAT IT READS IS OF BULK AT MOST 1048576: true; the input reads as it did. -/
def pipeWaysUptoRow : OpenClaim := { program := "ytigfgdefgnahpaadoor", sum := "15c01266659396958e0991e2089dbcd00193cc67e2f9c337d073c756a61a4bdd", func := "conduit/conduitlaw36.PipeWays", spec := "pipeWays", inPlace := ["internal/reflectlite.ValueOf", "(internal/reflectlite.Value).Type", "(internal/reflectlite.Value).IsNil", "internal/reflectlite.TypeOf", "(internal/reflectlite.Value).Elem", "(internal/reflectlite.Value).Set"], unfollowed := true, recurses := true, named := ["conduit/pipe.errEOF", "errors.errorType"], apart := false, laid := [("errors.errorType", laid_errors_errorType), ("conduit/pipe.errEOF", laid_conduit_pipe_errEOF)], narrowed := true }
def PipeWaysUptoSaid : Prop := pipeWaysUptoRow.holds Tryd.pinned (OpenSpec.upto pipeWaysSpec)

/-- 'conduitlaw36.PipeLoses', WHERE WHAT IT READS IS OF BULK AT MOST 1048576: true; the input reads as it did. -/
def pipeLosesUptoRow : OpenClaim := { program := "ytigfgdefgnahpaadoor", sum := "15c01266659396958e0991e2089dbcd00193cc67e2f9c337d073c756a61a4bdd", func := "conduit/conduitlaw36.PipeLoses", spec := "pipeLoses", inPlace := ["internal/reflectlite.ValueOf", "(internal/reflectlite.Value).Type", "(internal/reflectlite.Value).IsNil", "internal/reflectlite.TypeOf", "(internal/reflectlite.Value).Elem", "(internal/reflectlite.Value).Set"], unfollowed := true, recurses := true, named := ["conduit/pipe.errEOF", "errors.errorType"], apart := false, laid := [("errors.errorType", laid_errors_errorType), ("conduit/pipe.errEOF", laid_conduit_pipe_errEOF)], narrowed := true }
def PipeLosesUptoSaid : Prop := pipeLosesUptoRow.holds Tryd.pinned (OpenSpec.upto pipeLosesSpec)

/-- 'conduitlaw36.PipeTells', WHERE WHAT IT READS IS OF BULK AT MOST 1048576: true; the input reads as it did. -/
def pipeTellsUptoRow : OpenClaim := { program := "ytigfgdefgnahpaadoor", sum := "15c01266659396958e0991e2089dbcd00193cc67e2f9c337d073c756a61a4bdd", func := "conduit/conduitlaw36.PipeTells", spec := "pipeTells", inPlace := ["internal/reflectlite.ValueOf", "(internal/reflectlite.Value).Type", "(internal/reflectlite.Value).IsNil", "internal/reflectlite.TypeOf", "(internal/reflectlite.Value).Elem", "(internal/reflectlite.Value).Set"], unfollowed := true, recurses := true, named := ["conduit/pipe.errEOF", "errors.errorType"], apart := false, laid := [("errors.errorType", laid_errors_errorType), ("conduit/pipe.errEOF", laid_conduit_pipe_errEOF)], narrowed := true }
def PipeTellsUptoSaid : Prop := pipeTellsUptoRow.holds Tryd.pinned (OpenSpec.upto pipeTellsSpec)

/-- 'conduitlaw36.PipeHides', WHERE WHAT IT READS IS OF BULK AT MOST 1048576: true; the input reads as it did. -/
def pipeHidesUptoRow : OpenClaim := { program := "ytigfgdefgnahpaadoor", sum := "15c01266659396958e0991e2089dbcd00193cc67e2f9c337d073c756a61a4bdd", func := "conduit/conduitlaw36.PipeHides", spec := "pipeHides", inPlace := ["internal/reflectlite.ValueOf", "(internal/reflectlite.Value).Type", "(internal/reflectlite.Value).IsNil", "internal/reflectlite.TypeOf", "(internal/reflectlite.Value).Elem", "(internal/reflectlite.Value).Set"], unfollowed := true, recurses := true, named := ["conduit/pipe.errEOF", "errors.errorType"], apart := false, laid := [("errors.errorType", laid_errors_errorType), ("conduit/pipe.errEOF", laid_conduit_pipe_errEOF)], narrowed := true }
def PipeHidesUptoSaid : Prop := pipeHidesUptoRow.holds Tryd.pinned (OpenSpec.upto pipeHidesSpec)

/-- 'conduitlaw36.PipeCounts', WHERE WHAT IT READS IS OF BULK AT MOST 1048576: true; the input reads as it did. -/
def pipeCountsUptoRow : OpenClaim := { program := "ytigfgdefgnahpaadoor", sum := "15c01266659396958e0991e2089dbcd00193cc67e2f9c337d073c756a61a4bdd", func := "conduit/conduitlaw36.PipeCounts", spec := "pipeCounts", inPlace := ["internal/reflectlite.ValueOf", "(internal/reflectlite.Value).Type", "(internal/reflectlite.Value).IsNil", "internal/reflectlite.TypeOf", "(internal/reflectlite.Value).Elem", "(internal/reflectlite.Value).Set"], unfollowed := true, recurses := true, named := ["conduit/pipe.errEOF", "errors.errorType"], apart := false, laid := [("errors.errorType", laid_errors_errorType), ("conduit/pipe.errEOF", laid_conduit_pipe_errEOF)], narrowed := true }
def PipeCountsUptoSaid : Prop := pipeCountsUptoRow.holds Tryd.pinned (OpenSpec.upto pipeCountsSpec)

/-- 'conduitlaw36.PipeReads', WHERE WHAT IT READS IS OF BULK AT MOST 1048576: true; the input reads as it did. -/
def pipeReadsUptoRow : OpenClaim := { program := "ytigfgdefgnahpaadoor", sum := "15c01266659396958e0991e2089dbcd00193cc67e2f9c337d073c756a61a4bdd", func := "conduit/conduitlaw36.PipeReads", spec := "pipeReads", inPlace := ["internal/reflectlite.ValueOf", "(internal/reflectlite.Value).Type", "(internal/reflectlite.Value).IsNil", "internal/reflectlite.TypeOf", "(internal/reflectlite.Value).Elem", "(internal/reflectlite.Value).Set"], unfollowed := true, recurses := true, named := ["conduit/pipe.errEOF", "errors.errorType"], apart := false, laid := [("errors.errorType", laid_errors_errorType), ("conduit/pipe.errEOF", laid_conduit_pipe_errEOF)], narrowed := true }
def PipeReadsUptoSaid : Prop := pipeReadsUptoRow.holds Tryd.pinned (OpenSpec.upto pipeReadsSpec)

/-- 'conduitlaw36.PipeFits', WHERE WHAT IT READS IS OF BULK AT MOST 1048576: true; the input reads as it did. -/
def pipeFitsUptoRow : OpenClaim := { program := "ytigfgdefgnahpaadoor", sum := "15c01266659396958e0991e2089dbcd00193cc67e2f9c337d073c756a61a4bdd", func := "conduit/conduitlaw36.PipeFits", spec := "pipeFits", inPlace := ["internal/reflectlite.ValueOf", "(internal/reflectlite.Value).Type", "(internal/reflectlite.Value).IsNil", "internal/reflectlite.TypeOf", "(internal/reflectlite.Value).Elem", "(internal/reflectlite.Value).Set"], unfollowed := true, recurses := true, named := ["conduit/pipe.errEOF", "errors.errorType"], apart := false, laid := [("errors.errorType", laid_errors_errorType), ("conduit/pipe.errEOF", laid_conduit_pipe_errEOF)], narrowed := true }
def PipeFitsUptoSaid : Prop := pipeFitsUptoRow.holds Tryd.pinned (OpenSpec.upto pipeFitsSpec)

end Rows
end Go.Proofs.YtigfgdefgnahpaaDoor
