/-
  NARROWER THAN 'FOR EVERY INPUT', by the rows' own cells (each row's printed sentence says how): DatumPrints: loops, laid · DatumParses: laid · DatumValid: loops, laid · DatumTexts: loops, laid · DatumGroups: loops, laid · DatumOwn: loops, laid · DatumEquals: loops, laid · DatumMirrors: loops, laid · DatumGrouped: loops, laid.
  DERIVED. THE GIVEN ROWS OF THIS SEAT. 9 by the template 'for every input the law returns true; each argument reads behind the call as it read before'; 0 by the template 'total and deterministic' (their statements: YtofpdhkdnbnobaaDoorTotals.lean).
  GIVEN WITH THE SEED: the statements are not yours to turn. If you find one false, say at which input.
  Laid BY PROGRAM, IN A SANDBOX (cutbox-rows.mjs): the forced cells as the released guide's own fill.sh prints them over the translation 2a4c5a91328c911e… (all of the seat's roots in one cut). By AI agents, Wed Nov 11 2026. No macro, syntax, notation, axiom, sorry.
-/
import Derived.Test.YtofpdhkdnbnobaaDoorChecked
import GoSem.Claim
import GoSem.ClaimJoined
import GoSem.ClaimMapViews
import Derived.JoinedTies
import Derived.KernelRfl
namespace Go.Proofs.YtofpdhkdnbnobaaDoor
/- THE CELL 'sum', in the pinned program and in every row, IS THE sha256 OF THE DUMP (.gsa) THAT YtofpdhkdnbnobaaDoorProg.lean LOADS. Nothing in Lean hashes anything: it is a label: what it is worth is what the hold of that sum in a sandbox is worth. -/
noncomputable def Tryd.pinned : Pinned := { name := "ytofpdhkdnbnobaadoor", sum := "2a4c5a91328c911e3417e0a411a369bd165ec2e223acb63e9c8bdf9c095e4666", checked := Tryd.checked }
namespace Rows
def none {H : Type} : Left H := { results := [], args := [] }

/- WHAT THE LISTED PACKAGE-LEVEL VARIABLES READ AS WHEN THE CALL BEGINS. Each datum BY PROGRAM (the guide's laid-datum.mjs) off the statement by which the dump's own 'gosem.cut.vars' lays the variable. In a bare row this is a premise. The card (YtofpdhkdnbnobaaDoorCards.lean) ties it to the program's text. -/
def laid_math_bits_deBruijn32tab {H : Type} : DataW H := .agg [.lit (.int .u8 0), .lit (.int .u8 1), .lit (.int .u8 28), .lit (.int .u8 2), .lit (.int .u8 29), .lit (.int .u8 14), .lit (.int .u8 24), .lit (.int .u8 3), .lit (.int .u8 30), .lit (.int .u8 22), .lit (.int .u8 20), .lit (.int .u8 15), .lit (.int .u8 25), .lit (.int .u8 17), .lit (.int .u8 4), .lit (.int .u8 8), .lit (.int .u8 31), .lit (.int .u8 27), .lit (.int .u8 13), .lit (.int .u8 23), .lit (.int .u8 21), .lit (.int .u8 19), .lit (.int .u8 16), .lit (.int .u8 7), .lit (.int .u8 26), .lit (.int .u8 12), .lit (.int .u8 18), .lit (.int .u8 6), .lit (.int .u8 11), .lit (.int .u8 5), .lit (.int .u8 10), .lit (.int .u8 9)]
def laid_math_bits_deBruijn64tab {H : Type} : DataW H := .agg [.lit (.int .u8 0), .lit (.int .u8 1), .lit (.int .u8 56), .lit (.int .u8 2), .lit (.int .u8 57), .lit (.int .u8 49), .lit (.int .u8 28), .lit (.int .u8 3), .lit (.int .u8 61), .lit (.int .u8 58), .lit (.int .u8 42), .lit (.int .u8 50), .lit (.int .u8 38), .lit (.int .u8 29), .lit (.int .u8 17), .lit (.int .u8 4), .lit (.int .u8 62), .lit (.int .u8 47), .lit (.int .u8 59), .lit (.int .u8 36), .lit (.int .u8 45), .lit (.int .u8 43), .lit (.int .u8 51), .lit (.int .u8 22), .lit (.int .u8 53), .lit (.int .u8 39), .lit (.int .u8 33), .lit (.int .u8 30), .lit (.int .u8 24), .lit (.int .u8 18), .lit (.int .u8 12), .lit (.int .u8 5), .lit (.int .u8 63), .lit (.int .u8 55), .lit (.int .u8 48), .lit (.int .u8 27), .lit (.int .u8 60), .lit (.int .u8 41), .lit (.int .u8 37), .lit (.int .u8 16), .lit (.int .u8 46), .lit (.int .u8 35), .lit (.int .u8 44), .lit (.int .u8 21), .lit (.int .u8 52), .lit (.int .u8 32), .lit (.int .u8 23), .lit (.int .u8 11), .lit (.int .u8 54), .lit (.int .u8 26), .lit (.int .u8 40), .lit (.int .u8 15), .lit (.int .u8 34), .lit (.int .u8 20), .lit (.int .u8 31), .lit (.int .u8 10), .lit (.int .u8 25), .lit (.int .u8 14), .lit (.int .u8 19), .lit (.int .u8 9), .lit (.int .u8 13), .lit (.int .u8 8), .lit (.int .u8 7), .lit (.int .u8 6)]
def laid_internal_strconv_uint64pow10 {H : Type} : DataW H := .agg [.lit (.int .u64 1), .lit (.int .u64 10), .lit (.int .u64 100), .lit (.int .u64 1000), .lit (.int .u64 10000), .lit (.int .u64 100000), .lit (.int .u64 1000000), .lit (.int .u64 10000000), .lit (.int .u64 100000000), .lit (.int .u64 1000000000), .lit (.int .u64 10000000000), .lit (.int .u64 100000000000), .lit (.int .u64 1000000000000), .lit (.int .u64 10000000000000), .lit (.int .u64 100000000000000), .lit (.int .u64 1000000000000000), .lit (.int .u64 10000000000000000), .lit (.int .u64 100000000000000000), .lit (.int .u64 1000000000000000000), .lit (.int .u64 10000000000000000000)]
def laid_strconv_ErrRange {H : Type} : DataW H := .iface "*errors.errorString" (.ptr (.agg [.lit (.string [118, 97, 108, 117, 101, 32, 111, 117, 116, 32, 111, 102, 32, 114, 97, 110, 103, 101])]))
def laid_strconv_ErrSyntax {H : Type} : DataW H := .iface "*errors.errorString" (.ptr (.agg [.lit (.string [105, 110, 118, 97, 108, 105, 100, 32, 115, 121, 110, 116, 97, 120])]))

/-- 'conduitlaw01.DatumPrints': WHATEVER THE INPUT: true; the input reads as it did. -/
def datumPrintsSpec : ChangeSpec := { name := "datumPrints", fn := fun _ => fun
  | [d] => { results := [.lit (.bool true)], args := [d] }
  | _ => none }
def datumPrintsRow : OpenClaim := { program := "ytofpdhkdnbnobaadoor", sum := "2a4c5a91328c911e3417e0a411a369bd165ec2e223acb63e9c8bdf9c095e4666", func := "conduit/conduitlaw01.DatumPrints", spec := "datumPrints", inPlace := ["internal/bytealg.IndexByteString", "internal/abi.NoEscape", "internal/bytealg.MakeNoZero"], unfollowed := true, recurses := true, named := ["strconv.ErrSyntax", "strconv.ErrRange", "internal/strconv.uint64pow10", "math/bits.deBruijn32tab", "math/bits.deBruijn64tab"], loops := true, apart := false, laid := [("math/bits.deBruijn32tab", laid_math_bits_deBruijn32tab), ("math/bits.deBruijn64tab", laid_math_bits_deBruijn64tab), ("internal/strconv.uint64pow10", laid_internal_strconv_uint64pow10), ("strconv.ErrRange", laid_strconv_ErrRange), ("strconv.ErrSyntax", laid_strconv_ErrSyntax)] }
def DatumPrintsSaid : Prop := datumPrintsRow.holds Tryd.pinned (OpenSpec.ofChange datumPrintsSpec)

/-- ITS FALSE NEIGHBOUR: 'it returns false'. Refute it at one input. -/
def datumPrintsWrong : ChangeSpec := { name := "datumPrints", fn := fun _ => fun
  | [d] => { results := [.lit (.bool false)], args := [d] }
  | _ => none }
def DatumPrintsWrongFalsely : Prop := datumPrintsRow.holds Tryd.pinned (OpenSpec.ofChange datumPrintsWrong)

/-- 'conduitlaw01.DatumParses': WHATEVER THE INPUT: true; the input reads as it did. -/
def datumParsesSpec : ChangeSpec := { name := "datumParses", fn := fun _ => fun
  | [d] => { results := [.lit (.bool true)], args := [d] }
  | _ => none }
def datumParsesRow : OpenClaim := { program := "ytofpdhkdnbnobaadoor", sum := "2a4c5a91328c911e3417e0a411a369bd165ec2e223acb63e9c8bdf9c095e4666", func := "conduit/conduitlaw01.DatumParses", spec := "datumParses", inPlace := ["internal/bytealg.IndexByteString", "internal/abi.NoEscape", "internal/bytealg.MakeNoZero"], unfollowed := true, recurses := true, named := ["strconv.ErrSyntax", "strconv.ErrRange", "internal/strconv.uint64pow10", "math/bits.deBruijn32tab", "math/bits.deBruijn64tab"], apart := false, laid := [("math/bits.deBruijn32tab", laid_math_bits_deBruijn32tab), ("math/bits.deBruijn64tab", laid_math_bits_deBruijn64tab), ("internal/strconv.uint64pow10", laid_internal_strconv_uint64pow10), ("strconv.ErrRange", laid_strconv_ErrRange), ("strconv.ErrSyntax", laid_strconv_ErrSyntax)] }
def DatumParsesSaid : Prop := datumParsesRow.holds Tryd.pinned (OpenSpec.ofChange datumParsesSpec)

/-- ITS FALSE NEIGHBOUR: 'it returns false'. Refute it at one input. -/
def datumParsesWrong : ChangeSpec := { name := "datumParses", fn := fun _ => fun
  | [d] => { results := [.lit (.bool false)], args := [d] }
  | _ => none }
def DatumParsesWrongFalsely : Prop := datumParsesRow.holds Tryd.pinned (OpenSpec.ofChange datumParsesWrong)

/-- 'conduitlaw01.DatumValid': WHATEVER THE INPUT: true; the input reads as it did. -/
def datumValidSpec : ChangeSpec := { name := "datumValid", fn := fun _ => fun
  | [d] => { results := [.lit (.bool true)], args := [d] }
  | _ => none }
def datumValidRow : OpenClaim := { program := "ytofpdhkdnbnobaadoor", sum := "2a4c5a91328c911e3417e0a411a369bd165ec2e223acb63e9c8bdf9c095e4666", func := "conduit/conduitlaw01.DatumValid", spec := "datumValid", inPlace := ["internal/bytealg.IndexByteString", "internal/abi.NoEscape", "internal/bytealg.MakeNoZero"], unfollowed := true, recurses := true, named := ["strconv.ErrSyntax", "strconv.ErrRange", "internal/strconv.uint64pow10", "math/bits.deBruijn32tab", "math/bits.deBruijn64tab"], loops := true, apart := false, laid := [("math/bits.deBruijn32tab", laid_math_bits_deBruijn32tab), ("math/bits.deBruijn64tab", laid_math_bits_deBruijn64tab), ("internal/strconv.uint64pow10", laid_internal_strconv_uint64pow10), ("strconv.ErrRange", laid_strconv_ErrRange), ("strconv.ErrSyntax", laid_strconv_ErrSyntax)] }
def DatumValidSaid : Prop := datumValidRow.holds Tryd.pinned (OpenSpec.ofChange datumValidSpec)

/-- ITS FALSE NEIGHBOUR: 'it returns false'. Refute it at one input. -/
def datumValidWrong : ChangeSpec := { name := "datumValid", fn := fun _ => fun
  | [d] => { results := [.lit (.bool false)], args := [d] }
  | _ => none }
def DatumValidWrongFalsely : Prop := datumValidRow.holds Tryd.pinned (OpenSpec.ofChange datumValidWrong)

/-- 'conduitlaw01.DatumTexts': WHATEVER THE INPUT: true; the input reads as it did. -/
def datumTextsSpec : ChangeSpec := { name := "datumTexts", fn := fun _ => fun
  | [d1, d2] => { results := [.lit (.bool true)], args := [d1, d2] }
  | _ => none }
def datumTextsRow : OpenClaim := { program := "ytofpdhkdnbnobaadoor", sum := "2a4c5a91328c911e3417e0a411a369bd165ec2e223acb63e9c8bdf9c095e4666", func := "conduit/conduitlaw01.DatumTexts", spec := "datumTexts", inPlace := ["internal/bytealg.IndexByteString", "internal/abi.NoEscape", "internal/bytealg.MakeNoZero"], unfollowed := true, recurses := true, named := ["strconv.ErrSyntax", "strconv.ErrRange", "internal/strconv.uint64pow10", "math/bits.deBruijn32tab", "math/bits.deBruijn64tab"], loops := true, apart := false, laid := [("math/bits.deBruijn32tab", laid_math_bits_deBruijn32tab), ("math/bits.deBruijn64tab", laid_math_bits_deBruijn64tab), ("internal/strconv.uint64pow10", laid_internal_strconv_uint64pow10), ("strconv.ErrRange", laid_strconv_ErrRange), ("strconv.ErrSyntax", laid_strconv_ErrSyntax)] }
def DatumTextsSaid : Prop := datumTextsRow.holds Tryd.pinned (OpenSpec.ofChange datumTextsSpec)

/-- ITS FALSE NEIGHBOUR: 'it returns false'. Refute it at one input. -/
def datumTextsWrong : ChangeSpec := { name := "datumTexts", fn := fun _ => fun
  | [d1, d2] => { results := [.lit (.bool false)], args := [d1, d2] }
  | _ => none }
def DatumTextsWrongFalsely : Prop := datumTextsRow.holds Tryd.pinned (OpenSpec.ofChange datumTextsWrong)

/-- 'conduitlaw01.DatumGroups': WHATEVER THE INPUT: true; the input reads as it did. -/
def datumGroupsSpec : ChangeSpec := { name := "datumGroups", fn := fun _ => fun
  | [d] => { results := [.lit (.bool true)], args := [d] }
  | _ => none }
def datumGroupsRow : OpenClaim := { program := "ytofpdhkdnbnobaadoor", sum := "2a4c5a91328c911e3417e0a411a369bd165ec2e223acb63e9c8bdf9c095e4666", func := "conduit/conduitlaw01.DatumGroups", spec := "datumGroups", inPlace := ["internal/bytealg.IndexByteString", "internal/abi.NoEscape", "internal/bytealg.MakeNoZero", "math.Float64frombits"], unfollowed := true, recurses := true, named := ["strconv.ErrSyntax", "strconv.ErrRange", "internal/strconv.uint64pow10", "math/bits.deBruijn32tab", "math/bits.deBruijn64tab"], loops := true, apart := false, laid := [("math/bits.deBruijn32tab", laid_math_bits_deBruijn32tab), ("math/bits.deBruijn64tab", laid_math_bits_deBruijn64tab), ("internal/strconv.uint64pow10", laid_internal_strconv_uint64pow10), ("strconv.ErrRange", laid_strconv_ErrRange), ("strconv.ErrSyntax", laid_strconv_ErrSyntax)] }
def DatumGroupsSaid : Prop := datumGroupsRow.holds Tryd.pinned (OpenSpec.ofChange datumGroupsSpec)

/-- ITS FALSE NEIGHBOUR: 'it returns false'. Refute it at one input. -/
def datumGroupsWrong : ChangeSpec := { name := "datumGroups", fn := fun _ => fun
  | [d] => { results := [.lit (.bool false)], args := [d] }
  | _ => none }
def DatumGroupsWrongFalsely : Prop := datumGroupsRow.holds Tryd.pinned (OpenSpec.ofChange datumGroupsWrong)

/-- 'conduitlaw01.DatumOwn': WHATEVER THE INPUT: true; the input reads as it did. -/
def datumOwnSpec : ChangeSpec := { name := "datumOwn", fn := fun _ => fun
  | [d] => { results := [.lit (.bool true)], args := [d] }
  | _ => none }
def datumOwnRow : OpenClaim := { program := "ytofpdhkdnbnobaadoor", sum := "2a4c5a91328c911e3417e0a411a369bd165ec2e223acb63e9c8bdf9c095e4666", func := "conduit/conduitlaw01.DatumOwn", spec := "datumOwn", inPlace := ["internal/bytealg.IndexByteString", "internal/abi.NoEscape", "internal/bytealg.MakeNoZero", "math.Float64frombits"], unfollowed := true, recurses := true, named := ["strconv.ErrSyntax", "strconv.ErrRange", "internal/strconv.uint64pow10", "math/bits.deBruijn32tab", "math/bits.deBruijn64tab"], loops := true, apart := false, laid := [("math/bits.deBruijn32tab", laid_math_bits_deBruijn32tab), ("math/bits.deBruijn64tab", laid_math_bits_deBruijn64tab), ("internal/strconv.uint64pow10", laid_internal_strconv_uint64pow10), ("strconv.ErrRange", laid_strconv_ErrRange), ("strconv.ErrSyntax", laid_strconv_ErrSyntax)] }
def DatumOwnSaid : Prop := datumOwnRow.holds Tryd.pinned (OpenSpec.ofChange datumOwnSpec)

/-- ITS FALSE NEIGHBOUR: 'it returns false'. Refute it at one input. -/
def datumOwnWrong : ChangeSpec := { name := "datumOwn", fn := fun _ => fun
  | [d] => { results := [.lit (.bool false)], args := [d] }
  | _ => none }
def DatumOwnWrongFalsely : Prop := datumOwnRow.holds Tryd.pinned (OpenSpec.ofChange datumOwnWrong)

/-- 'conduitlaw01.DatumEquals': WHATEVER THE INPUT: true; the input reads as it did. -/
def datumEqualsSpec : ChangeSpec := { name := "datumEquals", fn := fun _ => fun
  | [d1, d2] => { results := [.lit (.bool true)], args := [d1, d2] }
  | _ => none }
def datumEqualsRow : OpenClaim := { program := "ytofpdhkdnbnobaadoor", sum := "2a4c5a91328c911e3417e0a411a369bd165ec2e223acb63e9c8bdf9c095e4666", func := "conduit/conduitlaw01.DatumEquals", spec := "datumEquals", inPlace := ["internal/bytealg.IndexByteString", "internal/abi.NoEscape", "internal/bytealg.MakeNoZero", "math.Float64frombits"], unfollowed := true, recurses := true, named := ["strconv.ErrSyntax", "strconv.ErrRange", "internal/strconv.uint64pow10", "math/bits.deBruijn32tab", "math/bits.deBruijn64tab"], loops := true, apart := false, laid := [("math/bits.deBruijn32tab", laid_math_bits_deBruijn32tab), ("math/bits.deBruijn64tab", laid_math_bits_deBruijn64tab), ("internal/strconv.uint64pow10", laid_internal_strconv_uint64pow10), ("strconv.ErrRange", laid_strconv_ErrRange), ("strconv.ErrSyntax", laid_strconv_ErrSyntax)] }
def DatumEqualsSaid : Prop := datumEqualsRow.holds Tryd.pinned (OpenSpec.ofChange datumEqualsSpec)

/-- ITS FALSE NEIGHBOUR: 'it returns false'. Refute it at one input. -/
def datumEqualsWrong : ChangeSpec := { name := "datumEquals", fn := fun _ => fun
  | [d1, d2] => { results := [.lit (.bool false)], args := [d1, d2] }
  | _ => none }
def DatumEqualsWrongFalsely : Prop := datumEqualsRow.holds Tryd.pinned (OpenSpec.ofChange datumEqualsWrong)

/-- 'conduitlaw01.DatumMirrors': WHATEVER THE INPUT: true; the input reads as it did. -/
def datumMirrorsSpec : ChangeSpec := { name := "datumMirrors", fn := fun _ => fun
  | [d1, d2] => { results := [.lit (.bool true)], args := [d1, d2] }
  | _ => none }
def datumMirrorsRow : OpenClaim := { program := "ytofpdhkdnbnobaadoor", sum := "2a4c5a91328c911e3417e0a411a369bd165ec2e223acb63e9c8bdf9c095e4666", func := "conduit/conduitlaw01.DatumMirrors", spec := "datumMirrors", inPlace := ["internal/bytealg.IndexByteString", "internal/abi.NoEscape", "internal/bytealg.MakeNoZero", "math.Float64frombits"], unfollowed := true, recurses := true, named := ["strconv.ErrSyntax", "strconv.ErrRange", "internal/strconv.uint64pow10", "math/bits.deBruijn32tab", "math/bits.deBruijn64tab"], loops := true, apart := false, laid := [("math/bits.deBruijn32tab", laid_math_bits_deBruijn32tab), ("math/bits.deBruijn64tab", laid_math_bits_deBruijn64tab), ("internal/strconv.uint64pow10", laid_internal_strconv_uint64pow10), ("strconv.ErrRange", laid_strconv_ErrRange), ("strconv.ErrSyntax", laid_strconv_ErrSyntax)] }
def DatumMirrorsSaid : Prop := datumMirrorsRow.holds Tryd.pinned (OpenSpec.ofChange datumMirrorsSpec)

/-- ITS FALSE NEIGHBOUR: 'it returns false'. Refute it at one input. -/
def datumMirrorsWrong : ChangeSpec := { name := "datumMirrors", fn := fun _ => fun
  | [d1, d2] => { results := [.lit (.bool false)], args := [d1, d2] }
  | _ => none }
def DatumMirrorsWrongFalsely : Prop := datumMirrorsRow.holds Tryd.pinned (OpenSpec.ofChange datumMirrorsWrong)

/-- 'conduitlaw01.DatumGrouped': WHATEVER THE INPUT: true; the input reads as it did. -/
def datumGroupedSpec : ChangeSpec := { name := "datumGrouped", fn := fun _ => fun
  | [d] => { results := [.lit (.bool true)], args := [d] }
  | _ => none }
def datumGroupedRow : OpenClaim := { program := "ytofpdhkdnbnobaadoor", sum := "2a4c5a91328c911e3417e0a411a369bd165ec2e223acb63e9c8bdf9c095e4666", func := "conduit/conduitlaw01.DatumGrouped", spec := "datumGrouped", inPlace := ["internal/bytealg.IndexByteString", "internal/abi.NoEscape", "internal/bytealg.MakeNoZero", "math.Float64frombits"], unfollowed := true, recurses := true, named := ["strconv.ErrSyntax", "strconv.ErrRange", "internal/strconv.uint64pow10", "math/bits.deBruijn32tab", "math/bits.deBruijn64tab"], loops := true, apart := false, laid := [("math/bits.deBruijn32tab", laid_math_bits_deBruijn32tab), ("math/bits.deBruijn64tab", laid_math_bits_deBruijn64tab), ("internal/strconv.uint64pow10", laid_internal_strconv_uint64pow10), ("strconv.ErrRange", laid_strconv_ErrRange), ("strconv.ErrSyntax", laid_strconv_ErrSyntax)] }
def DatumGroupedSaid : Prop := datumGroupedRow.holds Tryd.pinned (OpenSpec.ofChange datumGroupedSpec)

/-- ITS FALSE NEIGHBOUR: 'it returns false'. Refute it at one input. -/
def datumGroupedWrong : ChangeSpec := { name := "datumGrouped", fn := fun _ => fun
  | [d] => { results := [.lit (.bool false)], args := [d] }
  | _ => none }
def DatumGroupedWrongFalsely : Prop := datumGroupedRow.holds Tryd.pinned (OpenSpec.ofChange datumGroupedWrong)

/- THE SECOND FORM. 'bulk': how many values and letters a reading holds, each counted each time it is reached (what is shared counts as often as it is met; a slice's spare places count too). A statement '..UptoSaid' is the law's where the arguments, and the package variables that the reading takes, are together of bulk at most 1048576: NARROWER than '..Said'. Prove '..Said' where nothing that the law and all that it calls make is longer than what came in: it says more and counts as full. Else prove '..UptoSaid'. A law counts once. -/
mutual
def uptoBulk {H : Type} : DataW H → Nat
  | .lit (.string bytes) => bytes.length + 1
  | .lit _ => 1
  | .nil => 1
  | .ptr d => uptoBulk d + 1
  | .slice elems spare => uptoBulkAll elems + uptoBulkAll spare + 1
  | .agg parts => uptoBulkAll parts + 1
  | .iface _ d => uptoBulk d + 1
  | .map entries => uptoBulkEntries entries + 1
  | .held _ => 1
def uptoBulkAll {H : Type} : List (DataW H) → Nat
  | [] => 0
  | d :: r => uptoBulk d + uptoBulkAll r
def uptoBulkEntries {H : Type} : List (Lit × DataW H) → Nat
  | [] => 0
  | x :: r => uptoBulkEntry x + uptoBulkEntries r
def uptoBulkEntry {H : Type} : Lit × DataW H → Nat
  | (.string bytes, d) => bytes.length + uptoBulk d + 1
  | (_, d) => uptoBulk d + 1
 end
def uptoSmall : (H : Type) → List (DataW H) → Bool := fun _ ds => decide (uptoBulkAll ds ≤ 1048576)
def OpenSpec.upto (s : _root_.Go.ChangeSpec) : _root_.Go.OpenSpec := { _root_.Go.OpenSpec.ofChange s with cond := some uptoSmall }

/-- 'conduitlaw01.DatumPrints', WHERE WHAT IT READS IS OF BULK AT MOST 1048576: true; the input reads as it did. -/
def datumPrintsUptoRow : OpenClaim := { program := "ytofpdhkdnbnobaadoor", sum := "2a4c5a91328c911e3417e0a411a369bd165ec2e223acb63e9c8bdf9c095e4666", func := "conduit/conduitlaw01.DatumPrints", spec := "datumPrints", inPlace := ["internal/bytealg.IndexByteString", "internal/abi.NoEscape", "internal/bytealg.MakeNoZero"], unfollowed := true, recurses := true, named := ["strconv.ErrSyntax", "strconv.ErrRange", "internal/strconv.uint64pow10", "math/bits.deBruijn32tab", "math/bits.deBruijn64tab"], loops := true, apart := false, laid := [("math/bits.deBruijn32tab", laid_math_bits_deBruijn32tab), ("math/bits.deBruijn64tab", laid_math_bits_deBruijn64tab), ("internal/strconv.uint64pow10", laid_internal_strconv_uint64pow10), ("strconv.ErrRange", laid_strconv_ErrRange), ("strconv.ErrSyntax", laid_strconv_ErrSyntax)], narrowed := true }
def DatumPrintsUptoSaid : Prop := datumPrintsUptoRow.holds Tryd.pinned (OpenSpec.upto datumPrintsSpec)

/-- 'conduitlaw01.DatumParses', WHERE WHAT IT READS IS OF BULK AT MOST 1048576: true; the input reads as it did. -/
def datumParsesUptoRow : OpenClaim := { program := "ytofpdhkdnbnobaadoor", sum := "2a4c5a91328c911e3417e0a411a369bd165ec2e223acb63e9c8bdf9c095e4666", func := "conduit/conduitlaw01.DatumParses", spec := "datumParses", inPlace := ["internal/bytealg.IndexByteString", "internal/abi.NoEscape", "internal/bytealg.MakeNoZero"], unfollowed := true, recurses := true, named := ["strconv.ErrSyntax", "strconv.ErrRange", "internal/strconv.uint64pow10", "math/bits.deBruijn32tab", "math/bits.deBruijn64tab"], apart := false, laid := [("math/bits.deBruijn32tab", laid_math_bits_deBruijn32tab), ("math/bits.deBruijn64tab", laid_math_bits_deBruijn64tab), ("internal/strconv.uint64pow10", laid_internal_strconv_uint64pow10), ("strconv.ErrRange", laid_strconv_ErrRange), ("strconv.ErrSyntax", laid_strconv_ErrSyntax)], narrowed := true }
def DatumParsesUptoSaid : Prop := datumParsesUptoRow.holds Tryd.pinned (OpenSpec.upto datumParsesSpec)

/-- 'conduitlaw01.DatumValid', WHERE WHAT IT READS IS OF BULK AT MOST 1048576: true; the input reads as it did. -/
def datumValidUptoRow : OpenClaim := { program := "ytofpdhkdnbnobaadoor", sum := "2a4c5a91328c911e3417e0a411a369bd165ec2e223acb63e9c8bdf9c095e4666", func := "conduit/conduitlaw01.DatumValid", spec := "datumValid", inPlace := ["internal/bytealg.IndexByteString", "internal/abi.NoEscape", "internal/bytealg.MakeNoZero"], unfollowed := true, recurses := true, named := ["strconv.ErrSyntax", "strconv.ErrRange", "internal/strconv.uint64pow10", "math/bits.deBruijn32tab", "math/bits.deBruijn64tab"], loops := true, apart := false, laid := [("math/bits.deBruijn32tab", laid_math_bits_deBruijn32tab), ("math/bits.deBruijn64tab", laid_math_bits_deBruijn64tab), ("internal/strconv.uint64pow10", laid_internal_strconv_uint64pow10), ("strconv.ErrRange", laid_strconv_ErrRange), ("strconv.ErrSyntax", laid_strconv_ErrSyntax)], narrowed := true }
def DatumValidUptoSaid : Prop := datumValidUptoRow.holds Tryd.pinned (OpenSpec.upto datumValidSpec)

/-- 'conduitlaw01.DatumTexts', WHERE WHAT IT READS IS OF BULK AT MOST 1048576: true; the input reads as it did. -/
def datumTextsUptoRow : OpenClaim := { program := "ytofpdhkdnbnobaadoor", sum := "2a4c5a91328c911e3417e0a411a369bd165ec2e223acb63e9c8bdf9c095e4666", func := "conduit/conduitlaw01.DatumTexts", spec := "datumTexts", inPlace := ["internal/bytealg.IndexByteString", "internal/abi.NoEscape", "internal/bytealg.MakeNoZero"], unfollowed := true, recurses := true, named := ["strconv.ErrSyntax", "strconv.ErrRange", "internal/strconv.uint64pow10", "math/bits.deBruijn32tab", "math/bits.deBruijn64tab"], loops := true, apart := false, laid := [("math/bits.deBruijn32tab", laid_math_bits_deBruijn32tab), ("math/bits.deBruijn64tab", laid_math_bits_deBruijn64tab), ("internal/strconv.uint64pow10", laid_internal_strconv_uint64pow10), ("strconv.ErrRange", laid_strconv_ErrRange), ("strconv.ErrSyntax", laid_strconv_ErrSyntax)], narrowed := true }
def DatumTextsUptoSaid : Prop := datumTextsUptoRow.holds Tryd.pinned (OpenSpec.upto datumTextsSpec)

/-- 'conduitlaw01.DatumGroups', WHERE WHAT IT READS IS OF BULK AT MOST 1048576: true; the input reads as it did. -/
def datumGroupsUptoRow : OpenClaim := { program := "ytofpdhkdnbnobaadoor", sum := "2a4c5a91328c911e3417e0a411a369bd165ec2e223acb63e9c8bdf9c095e4666", func := "conduit/conduitlaw01.DatumGroups", spec := "datumGroups", inPlace := ["internal/bytealg.IndexByteString", "internal/abi.NoEscape", "internal/bytealg.MakeNoZero", "math.Float64frombits"], unfollowed := true, recurses := true, named := ["strconv.ErrSyntax", "strconv.ErrRange", "internal/strconv.uint64pow10", "math/bits.deBruijn32tab", "math/bits.deBruijn64tab"], loops := true, apart := false, laid := [("math/bits.deBruijn32tab", laid_math_bits_deBruijn32tab), ("math/bits.deBruijn64tab", laid_math_bits_deBruijn64tab), ("internal/strconv.uint64pow10", laid_internal_strconv_uint64pow10), ("strconv.ErrRange", laid_strconv_ErrRange), ("strconv.ErrSyntax", laid_strconv_ErrSyntax)], narrowed := true }
def DatumGroupsUptoSaid : Prop := datumGroupsUptoRow.holds Tryd.pinned (OpenSpec.upto datumGroupsSpec)

/-- 'conduitlaw01.DatumOwn', WHERE WHAT IT READS IS OF BULK AT MOST 1048576: true; the input reads as it did. -/
def datumOwnUptoRow : OpenClaim := { program := "ytofpdhkdnbnobaadoor", sum := "2a4c5a91328c911e3417e0a411a369bd165ec2e223acb63e9c8bdf9c095e4666", func := "conduit/conduitlaw01.DatumOwn", spec := "datumOwn", inPlace := ["internal/bytealg.IndexByteString", "internal/abi.NoEscape", "internal/bytealg.MakeNoZero", "math.Float64frombits"], unfollowed := true, recurses := true, named := ["strconv.ErrSyntax", "strconv.ErrRange", "internal/strconv.uint64pow10", "math/bits.deBruijn32tab", "math/bits.deBruijn64tab"], loops := true, apart := false, laid := [("math/bits.deBruijn32tab", laid_math_bits_deBruijn32tab), ("math/bits.deBruijn64tab", laid_math_bits_deBruijn64tab), ("internal/strconv.uint64pow10", laid_internal_strconv_uint64pow10), ("strconv.ErrRange", laid_strconv_ErrRange), ("strconv.ErrSyntax", laid_strconv_ErrSyntax)], narrowed := true }
def DatumOwnUptoSaid : Prop := datumOwnUptoRow.holds Tryd.pinned (OpenSpec.upto datumOwnSpec)

/-- 'conduitlaw01.DatumEquals', WHERE WHAT IT READS IS OF BULK AT MOST 1048576: true; the input reads as it did. -/
def datumEqualsUptoRow : OpenClaim := { program := "ytofpdhkdnbnobaadoor", sum := "2a4c5a91328c911e3417e0a411a369bd165ec2e223acb63e9c8bdf9c095e4666", func := "conduit/conduitlaw01.DatumEquals", spec := "datumEquals", inPlace := ["internal/bytealg.IndexByteString", "internal/abi.NoEscape", "internal/bytealg.MakeNoZero", "math.Float64frombits"], unfollowed := true, recurses := true, named := ["strconv.ErrSyntax", "strconv.ErrRange", "internal/strconv.uint64pow10", "math/bits.deBruijn32tab", "math/bits.deBruijn64tab"], loops := true, apart := false, laid := [("math/bits.deBruijn32tab", laid_math_bits_deBruijn32tab), ("math/bits.deBruijn64tab", laid_math_bits_deBruijn64tab), ("internal/strconv.uint64pow10", laid_internal_strconv_uint64pow10), ("strconv.ErrRange", laid_strconv_ErrRange), ("strconv.ErrSyntax", laid_strconv_ErrSyntax)], narrowed := true }
def DatumEqualsUptoSaid : Prop := datumEqualsUptoRow.holds Tryd.pinned (OpenSpec.upto datumEqualsSpec)

/-- 'conduitlaw01.DatumMirrors', WHERE WHAT IT READS IS OF BULK AT MOST 1048576: true; the input reads as it did. -/
def datumMirrorsUptoRow : OpenClaim := { program := "ytofpdhkdnbnobaadoor", sum := "2a4c5a91328c911e3417e0a411a369bd165ec2e223acb63e9c8bdf9c095e4666", func := "conduit/conduitlaw01.DatumMirrors", spec := "datumMirrors", inPlace := ["internal/bytealg.IndexByteString", "internal/abi.NoEscape", "internal/bytealg.MakeNoZero", "math.Float64frombits"], unfollowed := true, recurses := true, named := ["strconv.ErrSyntax", "strconv.ErrRange", "internal/strconv.uint64pow10", "math/bits.deBruijn32tab", "math/bits.deBruijn64tab"], loops := true, apart := false, laid := [("math/bits.deBruijn32tab", laid_math_bits_deBruijn32tab), ("math/bits.deBruijn64tab", laid_math_bits_deBruijn64tab), ("internal/strconv.uint64pow10", laid_internal_strconv_uint64pow10), ("strconv.ErrRange", laid_strconv_ErrRange), ("strconv.ErrSyntax", laid_strconv_ErrSyntax)], narrowed := true }
def DatumMirrorsUptoSaid : Prop := datumMirrorsUptoRow.holds Tryd.pinned (OpenSpec.upto datumMirrorsSpec)

/-- 'conduitlaw01.DatumGrouped', WHERE WHAT IT READS IS OF BULK AT MOST 1048576: true; the input reads as it did. -/
def datumGroupedUptoRow : OpenClaim := { program := "ytofpdhkdnbnobaadoor", sum := "2a4c5a91328c911e3417e0a411a369bd165ec2e223acb63e9c8bdf9c095e4666", func := "conduit/conduitlaw01.DatumGrouped", spec := "datumGrouped", inPlace := ["internal/bytealg.IndexByteString", "internal/abi.NoEscape", "internal/bytealg.MakeNoZero", "math.Float64frombits"], unfollowed := true, recurses := true, named := ["strconv.ErrSyntax", "strconv.ErrRange", "internal/strconv.uint64pow10", "math/bits.deBruijn32tab", "math/bits.deBruijn64tab"], loops := true, apart := false, laid := [("math/bits.deBruijn32tab", laid_math_bits_deBruijn32tab), ("math/bits.deBruijn64tab", laid_math_bits_deBruijn64tab), ("internal/strconv.uint64pow10", laid_internal_strconv_uint64pow10), ("strconv.ErrRange", laid_strconv_ErrRange), ("strconv.ErrSyntax", laid_strconv_ErrSyntax)], narrowed := true }
def DatumGroupedUptoSaid : Prop := datumGroupedUptoRow.holds Tryd.pinned (OpenSpec.upto datumGroupedSpec)

end Rows
end Go.Proofs.YtofpdhkdnbnobaaDoor
