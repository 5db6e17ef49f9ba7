/-
  No cell of these rows narrows 'for every input' (looked for: loops, veiled, ifaces, maps, wideKeys, modest, calm, conditions, laid).
  DERIVED. THE GIVEN ROWS OF THIS SEAT. 5 by the template 'for every input the law returns true; each argument reads behind the call as it read before'; 0 by the template 'total and deterministic' (their statements: YtoninfccmonaiaaTotals.lean).
  GIVEN WITH THE SEED: the statements are not yours to turn. If you find one false, say at which input.
  Laid BY PROGRAM, IN A SANDBOX (cutbox-rows.mjs): the forced cells as the released guide's own fill.sh prints them over the translation 459b18988e1f21e9… (all of the seat's roots in one cut). By AI agents, Wed Nov 11 2026. No macro, syntax, notation, axiom, sorry.
-/
import Derived.Test.YtoninfccmonaiaaChecked
import GoSem.Claim
import GoSem.ClaimJoined
import GoSem.ClaimMapViews
import Derived.JoinedTies
import Derived.KernelRfl
namespace Go.Proofs.Ytoninfccmonaiaa
/- THE CELL 'sum', in the pinned program and in every row, IS THE sha256 OF THE DUMP (.gsa) THAT YtoninfccmonaiaaProg.lean LOADS. Nothing in Lean hashes anything: it is a label: what it is worth is what the hold of that sum in a sandbox is worth. -/
noncomputable def Try.pinned : Pinned := { name := "ytoninfccmonaiaa", sum := "459b18988e1f21e932752cd6eb01b5dec0ac114c7af23bd0dbe9da48d95c24b8", checked := Try.checked }
namespace Rows
def none {H : Type} : Left H := { results := [], args := [] }

/-- 'conduitlaw15.DedupSees': WHATEVER THE INPUT: true; the input reads as it did. -/
def dedupSeesSpec : ChangeSpec := { name := "dedupSees", fn := fun _ => fun
  | [d1, d2, d3] => { results := [.lit (.bool true)], args := [d1, d2, d3] }
  | _ => none }
def dedupSeesRow : OpenClaim := { program := "ytoninfccmonaiaa", sum := "459b18988e1f21e932752cd6eb01b5dec0ac114c7af23bd0dbe9da48d95c24b8", func := "conduit/conduitlaw15.DedupSees", spec := "dedupSees", unfollowed := true, recurses := true, apart := false }
def DedupSeesSaid : Prop := dedupSeesRow.holds Try.pinned (OpenSpec.ofChange dedupSeesSpec)

/-- ITS FALSE NEIGHBOUR: 'it returns false'. Refute it at one input. -/
def dedupSeesWrong : ChangeSpec := { name := "dedupSees", fn := fun _ => fun
  | [d1, d2, d3] => { results := [.lit (.bool false)], args := [d1, d2, d3] }
  | _ => none }
def DedupSeesWrongFalsely : Prop := dedupSeesRow.holds Try.pinned (OpenSpec.ofChange dedupSeesWrong)

/-- 'conduitlaw15.DedupRows': WHATEVER THE INPUT: true; the input reads as it did. -/
def dedupRowsSpec : ChangeSpec := { name := "dedupRows", fn := fun _ => fun
  | [d1, d2] => { results := [.lit (.bool true)], args := [d1, d2] }
  | _ => none }
def dedupRowsRow : OpenClaim := { program := "ytoninfccmonaiaa", sum := "459b18988e1f21e932752cd6eb01b5dec0ac114c7af23bd0dbe9da48d95c24b8", func := "conduit/conduitlaw15.DedupRows", spec := "dedupRows", unfollowed := true, recurses := true, apart := false }
def DedupRowsSaid : Prop := dedupRowsRow.holds Try.pinned (OpenSpec.ofChange dedupRowsSpec)

/-- ITS FALSE NEIGHBOUR: 'it returns false'. Refute it at one input. -/
def dedupRowsWrong : ChangeSpec := { name := "dedupRows", fn := fun _ => fun
  | [d1, d2] => { results := [.lit (.bool false)], args := [d1, d2] }
  | _ => none }
def DedupRowsWrongFalsely : Prop := dedupRowsRow.holds Try.pinned (OpenSpec.ofChange dedupRowsWrong)

/-- 'conduitlaw15.DedupMore': WHATEVER THE INPUT: true; the input reads as it did. -/
def dedupMoreSpec : ChangeSpec := { name := "dedupMore", fn := fun _ => fun
  | [d1, d2, d3] => { results := [.lit (.bool true)], args := [d1, d2, d3] }
  | _ => none }
def dedupMoreRow : OpenClaim := { program := "ytoninfccmonaiaa", sum := "459b18988e1f21e932752cd6eb01b5dec0ac114c7af23bd0dbe9da48d95c24b8", func := "conduit/conduitlaw15.DedupMore", spec := "dedupMore", unfollowed := true, recurses := true, apart := false }
def DedupMoreSaid : Prop := dedupMoreRow.holds Try.pinned (OpenSpec.ofChange dedupMoreSpec)

/-- ITS FALSE NEIGHBOUR: 'it returns false'. Refute it at one input. -/
def dedupMoreWrong : ChangeSpec := { name := "dedupMore", fn := fun _ => fun
  | [d1, d2, d3] => { results := [.lit (.bool false)], args := [d1, d2, d3] }
  | _ => none }
def DedupMoreWrongFalsely : Prop := dedupMoreRow.holds Try.pinned (OpenSpec.ofChange dedupMoreWrong)

/-- 'conduitlaw23.ReplyAnswers': WHATEVER THE INPUT: true; the input reads as it did. -/
def replyAnswersSpec : ChangeSpec := { name := "replyAnswers", fn := fun _ => fun
  | [d1, d2, d3, d4] => { results := [.lit (.bool true)], args := [d1, d2, d3, d4] }
  | _ => none }
def replyAnswersRow : OpenClaim := { program := "ytoninfccmonaiaa", sum := "459b18988e1f21e932752cd6eb01b5dec0ac114c7af23bd0dbe9da48d95c24b8", func := "conduit/conduitlaw23.ReplyAnswers", spec := "replyAnswers", apart := false }
def ReplyAnswersSaid : Prop := replyAnswersRow.holds Try.pinned (OpenSpec.ofChange replyAnswersSpec)

/-- ITS FALSE NEIGHBOUR: 'it returns false'. Refute it at one input. -/
def replyAnswersWrong : ChangeSpec := { name := "replyAnswers", fn := fun _ => fun
  | [d1, d2, d3, d4] => { results := [.lit (.bool false)], args := [d1, d2, d3, d4] }
  | _ => none }
def ReplyAnswersWrongFalsely : Prop := replyAnswersRow.holds Try.pinned (OpenSpec.ofChange replyAnswersWrong)

/-- 'conduitlaw23.ReplyOnce': WHATEVER THE INPUT: true; the input reads as it did. -/
def replyOnceSpec : ChangeSpec := { name := "replyOnce", fn := fun _ => fun
  | [d] => { results := [.lit (.bool true)], args := [d] }
  | _ => none }
def replyOnceRow : OpenClaim := { program := "ytoninfccmonaiaa", sum := "459b18988e1f21e932752cd6eb01b5dec0ac114c7af23bd0dbe9da48d95c24b8", func := "conduit/conduitlaw23.ReplyOnce", spec := "replyOnce", apart := false }
def ReplyOnceSaid : Prop := replyOnceRow.holds Try.pinned (OpenSpec.ofChange replyOnceSpec)

/-- ITS FALSE NEIGHBOUR: 'it returns false'. Refute it at one input. -/
def replyOnceWrong : ChangeSpec := { name := "replyOnce", fn := fun _ => fun
  | [d] => { results := [.lit (.bool false)], args := [d] }
  | _ => none }
def ReplyOnceWrongFalsely : Prop := replyOnceRow.holds Try.pinned (OpenSpec.ofChange replyOnceWrong)

/- THE SECOND FORM. 'bulk': how many values and letters a reading holds, each counted each time it is reached (what is shared counts as often as it is met; a slice's spare places count too). A statement '..UptoSaid' is the law's where the arguments, and the package variables that the reading takes, are together of bulk at most 1048576: NARROWER than '..Said'. Prove '..Said' where nothing that the law and all that it calls make is longer than what came in: it says more and counts as full. Else prove '..UptoSaid'. A law counts once. -/
mutual
def uptoBulk {H : Type} : DataW H → Nat
  | .lit (.string bytes) => bytes.length + 1
  | .lit _ => 1
  | .nil => 1
  | .ptr d => uptoBulk d + 1
  | .slice elems spare => uptoBulkAll elems + uptoBulkAll spare + 1
  | .agg parts => uptoBulkAll parts + 1
  | .iface _ d => uptoBulk d + 1
  | .map entries => uptoBulkEntries entries + 1
  | .held _ => 1
def uptoBulkAll {H : Type} : List (DataW H) → Nat
  | [] => 0
  | d :: r => uptoBulk d + uptoBulkAll r
def uptoBulkEntries {H : Type} : List (Lit × DataW H) → Nat
  | [] => 0
  | x :: r => uptoBulkEntry x + uptoBulkEntries r
def uptoBulkEntry {H : Type} : Lit × DataW H → Nat
  | (.string bytes, d) => bytes.length + uptoBulk d + 1
  | (_, d) => uptoBulk d + 1
 end
def uptoSmall : (H : Type) → List (DataW H) → Bool := fun _ ds => decide (uptoBulkAll ds ≤ 1048576)
def OpenSpec.upto (s : _root_.Go.ChangeSpec) : _root_.Go.OpenSpec := { _root_.Go.OpenSpec.ofChange s with cond := some uptoSmall }

/-- 'conduitlaw15.DedupSees', WHERE WHAT IT READS IS OF BULK AT MOST 1048576: true; the input reads as it did. -/
def dedupSeesUptoRow : OpenClaim := { program := "ytoninfccmonaiaa", sum := "459b18988e1f21e932752cd6eb01b5dec0ac114c7af23bd0dbe9da48d95c24b8", func := "conduit/conduitlaw15.DedupSees", spec := "dedupSees", unfollowed := true, recurses := true, apart := false, narrowed := true }
def DedupSeesUptoSaid : Prop := dedupSeesUptoRow.holds Try.pinned (OpenSpec.upto dedupSeesSpec)

/-- 'conduitlaw15.DedupRows', WHERE WHAT IT READS IS OF BULK AT MOST 1048576: true; the input reads as it did. -/
def dedupRowsUptoRow : OpenClaim := { program := "ytoninfccmonaiaa", sum := "459b18988e1f21e932752cd6eb01b5dec0ac114c7af23bd0dbe9da48d95c24b8", func := "conduit/conduitlaw15.DedupRows", spec := "dedupRows", unfollowed := true, recurses := true, apart := false, narrowed := true }
def DedupRowsUptoSaid : Prop := dedupRowsUptoRow.holds Try.pinned (OpenSpec.upto dedupRowsSpec)

/-- 'conduitlaw15.DedupMore', WHERE WHAT IT READS IS OF BULK AT MOST 1048576: true; the input reads as it did. -/
def dedupMoreUptoRow : OpenClaim := { program := "ytoninfccmonaiaa", sum := "459b18988e1f21e932752cd6eb01b5dec0ac114c7af23bd0dbe9da48d95c24b8", func := "conduit/conduitlaw15.DedupMore", spec := "dedupMore", unfollowed := true, recurses := true, apart := false, narrowed := true }
def DedupMoreUptoSaid : Prop := dedupMoreUptoRow.holds Try.pinned (OpenSpec.upto dedupMoreSpec)

/-- 'conduitlaw23.ReplyAnswers', WHERE WHAT IT READS IS OF BULK AT MOST 1048576: true; the input reads as it did. -/
def replyAnswersUptoRow : OpenClaim := { program := "ytoninfccmonaiaa", sum := "459b18988e1f21e932752cd6eb01b5dec0ac114c7af23bd0dbe9da48d95c24b8", func := "conduit/conduitlaw23.ReplyAnswers", spec := "replyAnswers", apart := false, narrowed := true }
def ReplyAnswersUptoSaid : Prop := replyAnswersUptoRow.holds Try.pinned (OpenSpec.upto replyAnswersSpec)

/-- 'conduitlaw23.ReplyOnce', WHERE WHAT IT READS IS OF BULK AT MOST 1048576: true; the input reads as it did. -/
def replyOnceUptoRow : OpenClaim := { program := "ytoninfccmonaiaa", sum := "459b18988e1f21e932752cd6eb01b5dec0ac114c7af23bd0dbe9da48d95c24b8", func := "conduit/conduitlaw23.ReplyOnce", spec := "replyOnce", apart := false, narrowed := true }
def ReplyOnceUptoSaid : Prop := replyOnceUptoRow.holds Try.pinned (OpenSpec.upto replyOnceSpec)

end Rows
end Go.Proofs.Ytoninfccmonaiaa
