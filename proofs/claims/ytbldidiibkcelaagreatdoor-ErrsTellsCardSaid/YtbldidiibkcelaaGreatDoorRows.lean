/-
  NARROWER THAN 'FOR EVERY INPUT', by the rows' own cells (each row's printed sentence says how): ErrsCompares: loops, laid · ErrsValid: loops, laid · ErrsJoins: loops, laid · ErrsUnwraps: loops, laid · ErrsTells: loops, laid · ErrsAs: loops, laid · ErrsFirst: loops, laid.
  DERIVED. THE GIVEN ROWS OF THIS SEAT. 7 by the template 'for every input the law returns true; each argument reads behind the call as it read before'; 0 by the template 'total and deterministic' (their statements: YtbldidiibkcelaaGreatDoorTotals.lean).
  GIVEN WITH THE SEED: the statements are not yours to turn. If you find one false, say at which input.
  Laid BY PROGRAM, IN A SANDBOX (cutbox-rows.mjs): the forced cells as the released guide's own fill.sh prints them over the translation 04cff90f2f95065a… (all of the seat's roots in one cut). By AI agents, Wed Nov 11 2026. No macro, syntax, notation, axiom, sorry.
-/
import Derived.Test.YtbldidiibkcelaaGreatDoorChecked
import GoSem.Claim
import GoSem.ClaimJoined
import GoSem.ClaimMapViews
import Derived.JoinedTies
import Derived.KernelRfl
namespace Go.Proofs.YtbldidiibkcelaaGreatDoor
/- THE CELL 'sum', in the pinned program and in every row, IS THE sha256 OF THE DUMP (.gsa) THAT YtbldidiibkcelaaGreatDoorProg.lean LOADS. Nothing in Lean hashes anything: it is a label: what it is worth is what the hold of that sum in a sandbox is worth. -/
noncomputable def Tryz.pinned : Pinned := { name := "ytbldidiibkcelaagreatdoor", sum := "04cff90f2f95065a5e14ef07aaf11795685b856cde5552046deaff7033eb8815", checked := Tryz.checked }
namespace Rows
def none {H : Type} : Left H := { results := [], args := [] }

/- WHAT THE LISTED PACKAGE-LEVEL VARIABLES READ AS WHEN THE CALL BEGINS. Each datum BY PROGRAM (the guide's laid-datum.mjs) off the statement by which the dump's own 'gosem.cut.vars' lays the variable. In a bare row this is a premise. The card (YtbldidiibkcelaaGreatDoorCards.lean) ties it to the program's text. -/
def laid_conduit_errs_errCompare {H : Type} : DataW H := .iface "*errors.errorString" (.ptr (.agg [.lit (.string [99, 111, 109, 112, 97, 114, 101])]))
def laid_math_bits_deBruijn32tab {H : Type} : DataW H := .agg [.lit (.int .u8 0), .lit (.int .u8 1), .lit (.int .u8 28), .lit (.int .u8 2), .lit (.int .u8 29), .lit (.int .u8 14), .lit (.int .u8 24), .lit (.int .u8 3), .lit (.int .u8 30), .lit (.int .u8 22), .lit (.int .u8 20), .lit (.int .u8 15), .lit (.int .u8 25), .lit (.int .u8 17), .lit (.int .u8 4), .lit (.int .u8 8), .lit (.int .u8 31), .lit (.int .u8 27), .lit (.int .u8 13), .lit (.int .u8 23), .lit (.int .u8 21), .lit (.int .u8 19), .lit (.int .u8 16), .lit (.int .u8 7), .lit (.int .u8 26), .lit (.int .u8 12), .lit (.int .u8 18), .lit (.int .u8 6), .lit (.int .u8 11), .lit (.int .u8 5), .lit (.int .u8 10), .lit (.int .u8 9)]
def laid_math_bits_deBruijn64tab {H : Type} : DataW H := .agg [.lit (.int .u8 0), .lit (.int .u8 1), .lit (.int .u8 56), .lit (.int .u8 2), .lit (.int .u8 57), .lit (.int .u8 49), .lit (.int .u8 28), .lit (.int .u8 3), .lit (.int .u8 61), .lit (.int .u8 58), .lit (.int .u8 42), .lit (.int .u8 50), .lit (.int .u8 38), .lit (.int .u8 29), .lit (.int .u8 17), .lit (.int .u8 4), .lit (.int .u8 62), .lit (.int .u8 47), .lit (.int .u8 59), .lit (.int .u8 36), .lit (.int .u8 45), .lit (.int .u8 43), .lit (.int .u8 51), .lit (.int .u8 22), .lit (.int .u8 53), .lit (.int .u8 39), .lit (.int .u8 33), .lit (.int .u8 30), .lit (.int .u8 24), .lit (.int .u8 18), .lit (.int .u8 12), .lit (.int .u8 5), .lit (.int .u8 63), .lit (.int .u8 55), .lit (.int .u8 48), .lit (.int .u8 27), .lit (.int .u8 60), .lit (.int .u8 41), .lit (.int .u8 37), .lit (.int .u8 16), .lit (.int .u8 46), .lit (.int .u8 35), .lit (.int .u8 44), .lit (.int .u8 21), .lit (.int .u8 52), .lit (.int .u8 32), .lit (.int .u8 23), .lit (.int .u8 11), .lit (.int .u8 54), .lit (.int .u8 26), .lit (.int .u8 40), .lit (.int .u8 15), .lit (.int .u8 34), .lit (.int .u8 20), .lit (.int .u8 31), .lit (.int .u8 10), .lit (.int .u8 25), .lit (.int .u8 14), .lit (.int .u8 19), .lit (.int .u8 9), .lit (.int .u8 13), .lit (.int .u8 8), .lit (.int .u8 7), .lit (.int .u8 6)]
def laid_internal_strconv_uint64pow10 {H : Type} : DataW H := .agg [.lit (.int .u64 1), .lit (.int .u64 10), .lit (.int .u64 100), .lit (.int .u64 1000), .lit (.int .u64 10000), .lit (.int .u64 100000), .lit (.int .u64 1000000), .lit (.int .u64 10000000), .lit (.int .u64 100000000), .lit (.int .u64 1000000000), .lit (.int .u64 10000000000), .lit (.int .u64 100000000000), .lit (.int .u64 1000000000000), .lit (.int .u64 10000000000000), .lit (.int .u64 100000000000000), .lit (.int .u64 1000000000000000), .lit (.int .u64 10000000000000000), .lit (.int .u64 100000000000000000), .lit (.int .u64 1000000000000000000), .lit (.int .u64 10000000000000000000)]
def laid_errors_errorType {H : Type} : DataW H := .iface "internal/reflectlite.rtype" (.agg [.ptr (.lit (.string [101, 114, 114, 111, 114]))])

/-- 'conduitlaw35.ErrsCompares': WHATEVER THE INPUT: true; the input reads as it did. -/
def errsComparesSpec : ChangeSpec := { name := "errsCompares", fn := fun _ => fun
  | [d1, d2] => { results := [.lit (.bool true)], args := [d1, d2] }
  | _ => none }
def errsComparesRow : OpenClaim := { program := "ytbldidiibkcelaagreatdoor", sum := "04cff90f2f95065a5e14ef07aaf11795685b856cde5552046deaff7033eb8815", func := "conduit/conduitlaw35.ErrsCompares", spec := "errsCompares", inPlace := ["math.Float64frombits"], unfollowed := true, recurses := true, named := ["conduit/errs.errCompare"], loops := true, apart := false, laid := [("conduit/errs.errCompare", laid_conduit_errs_errCompare)] }
def ErrsComparesSaid : Prop := errsComparesRow.holds Tryz.pinned (OpenSpec.ofChange errsComparesSpec)

/-- ITS FALSE NEIGHBOUR: 'it returns false'. Refute it at one input. -/
def errsComparesWrong : ChangeSpec := { name := "errsCompares", fn := fun _ => fun
  | [d1, d2] => { results := [.lit (.bool false)], args := [d1, d2] }
  | _ => none }
def ErrsComparesWrongFalsely : Prop := errsComparesRow.holds Tryz.pinned (OpenSpec.ofChange errsComparesWrong)

/-- 'conduitlaw35.ErrsValid': WHATEVER THE INPUT: true; the input reads as it did. -/
def errsValidSpec : ChangeSpec := { name := "errsValid", fn := fun _ => fun
  | [d1, d2, d3] => { results := [.lit (.bool true)], args := [d1, d2, d3] }
  | _ => none }
def errsValidRow : OpenClaim := { program := "ytbldidiibkcelaagreatdoor", sum := "04cff90f2f95065a5e14ef07aaf11795685b856cde5552046deaff7033eb8815", func := "conduit/conduitlaw35.ErrsValid", spec := "errsValid", inPlace := ["math.Float64frombits"], unfollowed := true, recurses := true, named := ["conduit/errs.errCompare"], loops := true, apart := false, laid := [("conduit/errs.errCompare", laid_conduit_errs_errCompare)] }
def ErrsValidSaid : Prop := errsValidRow.holds Tryz.pinned (OpenSpec.ofChange errsValidSpec)

/-- ITS FALSE NEIGHBOUR: 'it returns false'. Refute it at one input. -/
def errsValidWrong : ChangeSpec := { name := "errsValid", fn := fun _ => fun
  | [d1, d2, d3] => { results := [.lit (.bool false)], args := [d1, d2, d3] }
  | _ => none }
def ErrsValidWrongFalsely : Prop := errsValidRow.holds Tryz.pinned (OpenSpec.ofChange errsValidWrong)

/-- 'conduitlaw35.ErrsJoins': WHATEVER THE INPUT: true; the input reads as it did. -/
def errsJoinsSpec : ChangeSpec := { name := "errsJoins", fn := fun _ => fun
  | [d1, d2, d3] => { results := [.lit (.bool true)], args := [d1, d2, d3] }
  | _ => none }
def errsJoinsRow : OpenClaim := { program := "ytbldidiibkcelaagreatdoor", sum := "04cff90f2f95065a5e14ef07aaf11795685b856cde5552046deaff7033eb8815", func := "conduit/conduitlaw35.ErrsJoins", spec := "errsJoins", inPlace := ["math.Float64frombits"], unfollowed := true, recurses := true, named := ["conduit/errs.errCompare"], loops := true, apart := false, laid := [("conduit/errs.errCompare", laid_conduit_errs_errCompare)] }
def ErrsJoinsSaid : Prop := errsJoinsRow.holds Tryz.pinned (OpenSpec.ofChange errsJoinsSpec)

/-- ITS FALSE NEIGHBOUR: 'it returns false'. Refute it at one input. -/
def errsJoinsWrong : ChangeSpec := { name := "errsJoins", fn := fun _ => fun
  | [d1, d2, d3] => { results := [.lit (.bool false)], args := [d1, d2, d3] }
  | _ => none }
def ErrsJoinsWrongFalsely : Prop := errsJoinsRow.holds Tryz.pinned (OpenSpec.ofChange errsJoinsWrong)

/-- 'conduitlaw35.ErrsUnwraps': WHATEVER THE INPUT: true; the input reads as it did. -/
def errsUnwrapsSpec : ChangeSpec := { name := "errsUnwraps", fn := fun _ => fun
  | [d] => { results := [.lit (.bool true)], args := [d] }
  | _ => none }
def errsUnwrapsRow : OpenClaim := { program := "ytbldidiibkcelaagreatdoor", sum := "04cff90f2f95065a5e14ef07aaf11795685b856cde5552046deaff7033eb8815", func := "conduit/conduitlaw35.ErrsUnwraps", spec := "errsUnwraps", inPlace := ["math.Float64frombits"], unfollowed := true, recurses := true, named := ["conduit/errs.errCompare"], loops := true, apart := false, laid := [("conduit/errs.errCompare", laid_conduit_errs_errCompare)] }
def ErrsUnwrapsSaid : Prop := errsUnwrapsRow.holds Tryz.pinned (OpenSpec.ofChange errsUnwrapsSpec)

/-- ITS FALSE NEIGHBOUR: 'it returns false'. Refute it at one input. -/
def errsUnwrapsWrong : ChangeSpec := { name := "errsUnwraps", fn := fun _ => fun
  | [d] => { results := [.lit (.bool false)], args := [d] }
  | _ => none }
def ErrsUnwrapsWrongFalsely : Prop := errsUnwrapsRow.holds Tryz.pinned (OpenSpec.ofChange errsUnwrapsWrong)

/-- 'conduitlaw35.ErrsTells': WHATEVER THE INPUT: true; the input reads as it did. -/
def errsTellsSpec : ChangeSpec := { name := "errsTells", fn := fun _ => fun
  | [d] => { results := [.lit (.bool true)], args := [d] }
  | _ => none }
def errsTellsRow : OpenClaim := { program := "ytbldidiibkcelaagreatdoor", sum := "04cff90f2f95065a5e14ef07aaf11795685b856cde5552046deaff7033eb8815", func := "conduit/conduitlaw35.ErrsTells", spec := "errsTells", inPlace := ["math.Float64frombits", "internal/reflectlite.ValueOf", "(internal/reflectlite.Value).Type", "(internal/reflectlite.Value).IsNil", "internal/reflectlite.TypeOf", "(internal/reflectlite.Value).Elem", "(internal/reflectlite.Value).Set"], unfollowed := true, recurses := true, named := ["conduit/errs.errCompare", "internal/strconv.uint64pow10", "math/bits.deBruijn32tab", "math/bits.deBruijn64tab", "errors.errorType"], loops := true, apart := false, laid := [("math/bits.deBruijn32tab", laid_math_bits_deBruijn32tab), ("math/bits.deBruijn64tab", laid_math_bits_deBruijn64tab), ("internal/strconv.uint64pow10", laid_internal_strconv_uint64pow10), ("errors.errorType", laid_errors_errorType), ("conduit/errs.errCompare", laid_conduit_errs_errCompare)] }
def ErrsTellsSaid : Prop := errsTellsRow.holds Tryz.pinned (OpenSpec.ofChange errsTellsSpec)

/-- ITS FALSE NEIGHBOUR: 'it returns false'. Refute it at one input. -/
def errsTellsWrong : ChangeSpec := { name := "errsTells", fn := fun _ => fun
  | [d] => { results := [.lit (.bool false)], args := [d] }
  | _ => none }
def ErrsTellsWrongFalsely : Prop := errsTellsRow.holds Tryz.pinned (OpenSpec.ofChange errsTellsWrong)

/-- 'conduitlaw35.ErrsAs': WHATEVER THE INPUT: true; the input reads as it did. -/
def errsAsSpec : ChangeSpec := { name := "errsAs", fn := fun _ => fun
  | [d1, d2, d3] => { results := [.lit (.bool true)], args := [d1, d2, d3] }
  | _ => none }
def errsAsRow : OpenClaim := { program := "ytbldidiibkcelaagreatdoor", sum := "04cff90f2f95065a5e14ef07aaf11795685b856cde5552046deaff7033eb8815", func := "conduit/conduitlaw35.ErrsAs", spec := "errsAs", inPlace := ["math.Float64frombits", "internal/reflectlite.ValueOf", "(internal/reflectlite.Value).Type", "(internal/reflectlite.Value).IsNil", "internal/reflectlite.TypeOf", "(internal/reflectlite.Value).Elem", "(internal/reflectlite.Value).Set"], unfollowed := true, recurses := true, named := ["conduit/errs.errCompare", "errors.errorType"], loops := true, apart := false, laid := [("errors.errorType", laid_errors_errorType), ("conduit/errs.errCompare", laid_conduit_errs_errCompare)] }
def ErrsAsSaid : Prop := errsAsRow.holds Tryz.pinned (OpenSpec.ofChange errsAsSpec)

/-- ITS FALSE NEIGHBOUR: 'it returns false'. Refute it at one input. -/
def errsAsWrong : ChangeSpec := { name := "errsAs", fn := fun _ => fun
  | [d1, d2, d3] => { results := [.lit (.bool false)], args := [d1, d2, d3] }
  | _ => none }
def ErrsAsWrongFalsely : Prop := errsAsRow.holds Tryz.pinned (OpenSpec.ofChange errsAsWrong)

/-- 'conduitlaw35.ErrsFirst': WHATEVER THE INPUT: true; the input reads as it did. -/
def errsFirstSpec : ChangeSpec := { name := "errsFirst", fn := fun _ => fun
  | [d1, d2, d3] => { results := [.lit (.bool true)], args := [d1, d2, d3] }
  | _ => none }
def errsFirstRow : OpenClaim := { program := "ytbldidiibkcelaagreatdoor", sum := "04cff90f2f95065a5e14ef07aaf11795685b856cde5552046deaff7033eb8815", func := "conduit/conduitlaw35.ErrsFirst", spec := "errsFirst", inPlace := ["math.Float64frombits", "internal/reflectlite.ValueOf", "(internal/reflectlite.Value).Type", "(internal/reflectlite.Value).IsNil", "internal/reflectlite.TypeOf", "(internal/reflectlite.Value).Elem", "(internal/reflectlite.Value).Set"], unfollowed := true, recurses := true, named := ["conduit/errs.errCompare", "errors.errorType"], loops := true, apart := false, laid := [("errors.errorType", laid_errors_errorType), ("conduit/errs.errCompare", laid_conduit_errs_errCompare)] }
def ErrsFirstSaid : Prop := errsFirstRow.holds Tryz.pinned (OpenSpec.ofChange errsFirstSpec)

/-- ITS FALSE NEIGHBOUR: 'it returns false'. Refute it at one input. -/
def errsFirstWrong : ChangeSpec := { name := "errsFirst", fn := fun _ => fun
  | [d1, d2, d3] => { results := [.lit (.bool false)], args := [d1, d2, d3] }
  | _ => none }
def ErrsFirstWrongFalsely : Prop := errsFirstRow.holds Tryz.pinned (OpenSpec.ofChange errsFirstWrong)

/- THE SECOND FORM. 'bulk': how many values and letters a reading holds, each counted each time it is reached (what is shared counts as often as it is met; a slice's spare places count too). A statement '..UptoSaid' is the law's where the arguments, and the package variables that the reading takes, are together of bulk at most 1048576: NARROWER than '..Said'. Prove '..Said' where nothing that the law and all that it calls make is longer than what came in: it says more and counts as full. Else prove '..UptoSaid'. A law counts once. -/
mutual
def uptoBulk {H : Type} : DataW H → Nat
  | .lit (.string bytes) => bytes.length + 1
  | .lit _ => 1
  | .nil => 1
  | .ptr d => uptoBulk d + 1
  | .slice elems spare => uptoBulkAll elems + uptoBulkAll spare + 1
  | .agg parts => uptoBulkAll parts + 1
  | .iface _ d => uptoBulk d + 1
  | .map entries => uptoBulkEntries entries + 1
  | .held _ => 1
def uptoBulkAll {H : Type} : List (DataW H) → Nat
  | [] => 0
  | d :: r => uptoBulk d + uptoBulkAll r
def uptoBulkEntries {H : Type} : List (Lit × DataW H) → Nat
  | [] => 0
  | x :: r => uptoBulkEntry x + uptoBulkEntries r
def uptoBulkEntry {H : Type} : Lit × DataW H → Nat
  | (.string bytes, d) => bytes.length + uptoBulk d + 1
  | (_, d) => uptoBulk d + 1
 end
def uptoSmall : (H : Type) → List (DataW H) → Bool := fun _ ds => decide (uptoBulkAll ds ≤ 1048576)
def OpenSpec.upto (s : _root_.Go.ChangeSpec) : _root_.Go.OpenSpec := { _root_.Go.OpenSpec.ofChange s with cond := some uptoSmall }

/-- 'conduitlaw35.ErrsCompares', WHERE WHAT IT READS IS OF BULK AT MOST 1048576: true; the input reads as it did. -/
def errsComparesUptoRow : OpenClaim := { program := "ytbldidiibkcelaagreatdoor", sum := "04cff90f2f95065a5e14ef07aaf11795685b856cde5552046deaff7033eb8815", func := "conduit/conduitlaw35.ErrsCompares", spec := "errsCompares", inPlace := ["math.Float64frombits"], unfollowed := true, recurses := true, named := ["conduit/errs.errCompare"], loops := true, apart := false, laid := [("conduit/errs.errCompare", laid_conduit_errs_errCompare)], narrowed := true }
def ErrsComparesUptoSaid : Prop := errsComparesUptoRow.holds Tryz.pinned (OpenSpec.upto errsComparesSpec)

/-- 'conduitlaw35.ErrsValid', WHERE WHAT IT READS IS OF BULK AT MOST 1048576: true; the input reads as it did. -/
def errsValidUptoRow : OpenClaim := { program := "ytbldidiibkcelaagreatdoor", sum := "04cff90f2f95065a5e14ef07aaf11795685b856cde5552046deaff7033eb8815", func := "conduit/conduitlaw35.ErrsValid", spec := "errsValid", inPlace := ["math.Float64frombits"], unfollowed := true, recurses := true, named := ["conduit/errs.errCompare"], loops := true, apart := false, laid := [("conduit/errs.errCompare", laid_conduit_errs_errCompare)], narrowed := true }
def ErrsValidUptoSaid : Prop := errsValidUptoRow.holds Tryz.pinned (OpenSpec.upto errsValidSpec)

/-- 'conduitlaw35.ErrsJoins', WHERE WHAT IT READS IS OF BULK AT MOST 1048576: true; the input reads as it did. -/
def errsJoinsUptoRow : OpenClaim := { program := "ytbldidiibkcelaagreatdoor", sum := "04cff90f2f95065a5e14ef07aaf11795685b856cde5552046deaff7033eb8815", func := "conduit/conduitlaw35.ErrsJoins", spec := "errsJoins", inPlace := ["math.Float64frombits"], unfollowed := true, recurses := true, named := ["conduit/errs.errCompare"], loops := true, apart := false, laid := [("conduit/errs.errCompare", laid_conduit_errs_errCompare)], narrowed := true }
def ErrsJoinsUptoSaid : Prop := errsJoinsUptoRow.holds Tryz.pinned (OpenSpec.upto errsJoinsSpec)

/-- 'conduitlaw35.ErrsUnwraps', WHERE WHAT IT READS IS OF BULK AT MOST 1048576: true; the input reads as it did. -/
def errsUnwrapsUptoRow : OpenClaim := { program := "ytbldidiibkcelaagreatdoor", sum := "04cff90f2f95065a5e14ef07aaf11795685b856cde5552046deaff7033eb8815", func := "conduit/conduitlaw35.ErrsUnwraps", spec := "errsUnwraps", inPlace := ["math.Float64frombits"], unfollowed := true, recurses := true, named := ["conduit/errs.errCompare"], loops := true, apart := false, laid := [("conduit/errs.errCompare", laid_conduit_errs_errCompare)], narrowed := true }
def ErrsUnwrapsUptoSaid : Prop := errsUnwrapsUptoRow.holds Tryz.pinned (OpenSpec.upto errsUnwrapsSpec)

/-- 'conduitlaw35.ErrsTells', WHERE WHAT IT READS IS OF BULK AT MOST 1048576: true; the input reads as it did. -/
def errsTellsUptoRow : OpenClaim := { program := "ytbldidiibkcelaagreatdoor", sum := "04cff90f2f95065a5e14ef07aaf11795685b856cde5552046deaff7033eb8815", func := "conduit/conduitlaw35.ErrsTells", spec := "errsTells", inPlace := ["math.Float64frombits", "internal/reflectlite.ValueOf", "(internal/reflectlite.Value).Type", "(internal/reflectlite.Value).IsNil", "internal/reflectlite.TypeOf", "(internal/reflectlite.Value).Elem", "(internal/reflectlite.Value).Set"], unfollowed := true, recurses := true, named := ["conduit/errs.errCompare", "internal/strconv.uint64pow10", "math/bits.deBruijn32tab", "math/bits.deBruijn64tab", "errors.errorType"], loops := true, apart := false, laid := [("math/bits.deBruijn32tab", laid_math_bits_deBruijn32tab), ("math/bits.deBruijn64tab", laid_math_bits_deBruijn64tab), ("internal/strconv.uint64pow10", laid_internal_strconv_uint64pow10), ("errors.errorType", laid_errors_errorType), ("conduit/errs.errCompare", laid_conduit_errs_errCompare)], narrowed := true }
def ErrsTellsUptoSaid : Prop := errsTellsUptoRow.holds Tryz.pinned (OpenSpec.upto errsTellsSpec)

/-- 'conduitlaw35.ErrsAs', WHERE WHAT IT READS IS OF BULK AT MOST 1048576: true; the input reads as it did. -/
def errsAsUptoRow : OpenClaim := { program := "ytbldidiibkcelaagreatdoor", sum := "04cff90f2f95065a5e14ef07aaf11795685b856cde5552046deaff7033eb8815", func := "conduit/conduitlaw35.ErrsAs", spec := "errsAs", inPlace := ["math.Float64frombits", "internal/reflectlite.ValueOf", "(internal/reflectlite.Value).Type", "(internal/reflectlite.Value).IsNil", "internal/reflectlite.TypeOf", "(internal/reflectlite.Value).Elem", "(internal/reflectlite.Value).Set"], unfollowed := true, recurses := true, named := ["conduit/errs.errCompare", "errors.errorType"], loops := true, apart := false, laid := [("errors.errorType", laid_errors_errorType), ("conduit/errs.errCompare", laid_conduit_errs_errCompare)], narrowed := true }
def ErrsAsUptoSaid : Prop := errsAsUptoRow.holds Tryz.pinned (OpenSpec.upto errsAsSpec)

/-- 'conduitlaw35.ErrsFirst', WHERE WHAT IT READS IS OF BULK AT MOST 1048576: true; the input reads as it did. -/
def errsFirstUptoRow : OpenClaim := { program := "ytbldidiibkcelaagreatdoor", sum := "04cff90f2f95065a5e14ef07aaf11795685b856cde5552046deaff7033eb8815", func := "conduit/conduitlaw35.ErrsFirst", spec := "errsFirst", inPlace := ["math.Float64frombits", "internal/reflectlite.ValueOf", "(internal/reflectlite.Value).Type", "(internal/reflectlite.Value).IsNil", "internal/reflectlite.TypeOf", "(internal/reflectlite.Value).Elem", "(internal/reflectlite.Value).Set"], unfollowed := true, recurses := true, named := ["conduit/errs.errCompare", "errors.errorType"], loops := true, apart := false, laid := [("errors.errorType", laid_errors_errorType), ("conduit/errs.errCompare", laid_conduit_errs_errCompare)], narrowed := true }
def ErrsFirstUptoSaid : Prop := errsFirstUptoRow.holds Tryz.pinned (OpenSpec.upto errsFirstSpec)

end Rows
end Go.Proofs.YtbldidiibkcelaaGreatDoor
