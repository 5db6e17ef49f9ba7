/-
  DERIVED. GIVEN WITH THE SEED: THE CARDS: each row of YtofpdhkdnbnobaaGreatDoorRows.lean that lists a variable, with what it lists TIED to the program's text (the seventh form; the later family's looks); each row that meets fmt, with fmt's text TOLD by the authors' own Lean function (tested against real Go, not proved from fmt's source: count such statements apart). THE CARD IS WHAT COUNTS. Prove the row's statement (the work); the ties are given (YtofpdhkdnbnobaaGreatDoorTie.lean); close each card by the builder's one call (the guide's Derived/Test/ToyasCard.lean, 'card_holds'). Laid BY PROGRAM, IN A SANDBOX (cutbox-door.mjs). By AI agents, Wed Nov 11 2026. No macro, syntax, notation, axiom, sorry.
-/
import Derived.Test.YtofpdhkdnbnobaaGreatDoorRows
import GoSem.ClaimSeven
namespace Go.Proofs.YtofpdhkdnbnobaaGreatDoor
namespace Rows

/-- THE TIED CARD OF 'conduitlaw01.DatumHas'. -/
def datumHasCard : Claim7 := { stood := { row := datumHasRow, standIns := [], harness := (true, "b0f5852893efa0406de1f38f29927ca04d57442b7910ae3fce289dcf841ba4d3"), looks := true }, kinds := [], alts := [], laidByText := true, laidKinds := [.data, .data, .data, .sentinel, .sentinel], laidTests := true, laidLooks := .later }
def DatumHasCardSaid : Prop := Claim7.holds Tryz.pinned (.plain (OpenSpec.ofChange datumHasSpec)) datumHasCard

/-- THE SECOND FORM's CARD OF 'conduitlaw01.DatumHas'. -/
def datumHasUptoCard : Claim7 := { stood := { row := datumHasUptoRow, standIns := [], harness := (true, "b0f5852893efa0406de1f38f29927ca04d57442b7910ae3fce289dcf841ba4d3"), looks := true }, kinds := [], alts := [], laidByText := true, laidKinds := [.data, .data, .data, .sentinel, .sentinel], laidTests := true, laidLooks := .later }
def DatumHasUptoCardSaid : Prop := Claim7.holds Tryz.pinned (.plain (OpenSpec.upto datumHasSpec)) datumHasUptoCard
end Rows
end Go.Proofs.YtofpdhkdnbnobaaGreatDoor
