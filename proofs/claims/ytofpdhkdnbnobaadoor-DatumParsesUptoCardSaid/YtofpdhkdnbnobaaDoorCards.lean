/-
  DERIVED. GIVEN WITH THE SEED: THE CARDS: each row of YtofpdhkdnbnobaaDoorRows.lean that lists a variable, with what it lists TIED to the program's text (the seventh form; the later family's looks); each row that meets fmt, with fmt's text TOLD by the authors' own Lean function (tested against real Go, not proved from fmt's source: count such statements apart). THE CARD IS WHAT COUNTS. Prove the row's statement (the work); the ties are given (YtofpdhkdnbnobaaDoorTie.lean); close each card by the builder's one call (the guide's Derived/Test/ToyasCard.lean, 'card_holds'). Laid BY PROGRAM, IN A SANDBOX (cutbox-door.mjs). By AI agents, Wed Nov 11 2026. No macro, syntax, notation, axiom, sorry.
-/
import Derived.Test.YtofpdhkdnbnobaaDoorRows
import GoSem.ClaimSeven
namespace Go.Proofs.YtofpdhkdnbnobaaDoor
namespace Rows

/-- THE TIED CARD OF 'conduitlaw01.DatumPrints'. -/
def datumPrintsCard : Claim7 := { stood := { row := datumPrintsRow, standIns := [], harness := (true, "1923507b371831864af719c430bdea72b0f2ca599107aafeb1228c24a7600d91"), looks := true }, kinds := [], alts := [], laidByText := true, laidKinds := [.data, .data, .data, .sentinel, .sentinel], laidTests := true, laidLooks := .later }
def DatumPrintsCardSaid : Prop := Claim7.holds Tryd.pinned (.plain (OpenSpec.ofChange datumPrintsSpec)) datumPrintsCard

/-- THE TIED CARD OF 'conduitlaw01.DatumParses'. -/
def datumParsesCard : Claim7 := { stood := { row := datumParsesRow, standIns := [], harness := (true, "1923507b371831864af719c430bdea72b0f2ca599107aafeb1228c24a7600d91"), looks := true }, kinds := [], alts := [], laidByText := true, laidKinds := [.data, .data, .data, .sentinel, .sentinel], laidTests := true, laidLooks := .later }
def DatumParsesCardSaid : Prop := Claim7.holds Tryd.pinned (.plain (OpenSpec.ofChange datumParsesSpec)) datumParsesCard

/-- THE TIED CARD OF 'conduitlaw01.DatumValid'. -/
def datumValidCard : Claim7 := { stood := { row := datumValidRow, standIns := [], harness := (true, "1923507b371831864af719c430bdea72b0f2ca599107aafeb1228c24a7600d91"), looks := true }, kinds := [], alts := [], laidByText := true, laidKinds := [.data, .data, .data, .sentinel, .sentinel], laidTests := true, laidLooks := .later }
def DatumValidCardSaid : Prop := Claim7.holds Tryd.pinned (.plain (OpenSpec.ofChange datumValidSpec)) datumValidCard

/-- THE TIED CARD OF 'conduitlaw01.DatumTexts'. -/
def datumTextsCard : Claim7 := { stood := { row := datumTextsRow, standIns := [], harness := (true, "1923507b371831864af719c430bdea72b0f2ca599107aafeb1228c24a7600d91"), looks := true }, kinds := [], alts := [], laidByText := true, laidKinds := [.data, .data, .data, .sentinel, .sentinel], laidTests := true, laidLooks := .later }
def DatumTextsCardSaid : Prop := Claim7.holds Tryd.pinned (.plain (OpenSpec.ofChange datumTextsSpec)) datumTextsCard

/-- THE TIED CARD OF 'conduitlaw01.DatumGroups'. -/
def datumGroupsCard : Claim7 := { stood := { row := datumGroupsRow, standIns := [], harness := (true, "1923507b371831864af719c430bdea72b0f2ca599107aafeb1228c24a7600d91"), looks := true }, kinds := [], alts := [], laidByText := true, laidKinds := [.data, .data, .data, .sentinel, .sentinel], laidTests := true, laidLooks := .later }
def DatumGroupsCardSaid : Prop := Claim7.holds Tryd.pinned (.plain (OpenSpec.ofChange datumGroupsSpec)) datumGroupsCard

/-- THE TIED CARD OF 'conduitlaw01.DatumOwn'. -/
def datumOwnCard : Claim7 := { stood := { row := datumOwnRow, standIns := [], harness := (true, "1923507b371831864af719c430bdea72b0f2ca599107aafeb1228c24a7600d91"), looks := true }, kinds := [], alts := [], laidByText := true, laidKinds := [.data, .data, .data, .sentinel, .sentinel], laidTests := true, laidLooks := .later }
def DatumOwnCardSaid : Prop := Claim7.holds Tryd.pinned (.plain (OpenSpec.ofChange datumOwnSpec)) datumOwnCard

/-- THE TIED CARD OF 'conduitlaw01.DatumEquals'. -/
def datumEqualsCard : Claim7 := { stood := { row := datumEqualsRow, standIns := [], harness := (true, "1923507b371831864af719c430bdea72b0f2ca599107aafeb1228c24a7600d91"), looks := true }, kinds := [], alts := [], laidByText := true, laidKinds := [.data, .data, .data, .sentinel, .sentinel], laidTests := true, laidLooks := .later }
def DatumEqualsCardSaid : Prop := Claim7.holds Tryd.pinned (.plain (OpenSpec.ofChange datumEqualsSpec)) datumEqualsCard

/-- THE TIED CARD OF 'conduitlaw01.DatumMirrors'. -/
def datumMirrorsCard : Claim7 := { stood := { row := datumMirrorsRow, standIns := [], harness := (true, "1923507b371831864af719c430bdea72b0f2ca599107aafeb1228c24a7600d91"), looks := true }, kinds := [], alts := [], laidByText := true, laidKinds := [.data, .data, .data, .sentinel, .sentinel], laidTests := true, laidLooks := .later }
def DatumMirrorsCardSaid : Prop := Claim7.holds Tryd.pinned (.plain (OpenSpec.ofChange datumMirrorsSpec)) datumMirrorsCard

/-- THE TIED CARD OF 'conduitlaw01.DatumGrouped'. -/
def datumGroupedCard : Claim7 := { stood := { row := datumGroupedRow, standIns := [], harness := (true, "1923507b371831864af719c430bdea72b0f2ca599107aafeb1228c24a7600d91"), looks := true }, kinds := [], alts := [], laidByText := true, laidKinds := [.data, .data, .data, .sentinel, .sentinel], laidTests := true, laidLooks := .later }
def DatumGroupedCardSaid : Prop := Claim7.holds Tryd.pinned (.plain (OpenSpec.ofChange datumGroupedSpec)) datumGroupedCard

/-- THE SECOND FORM's CARD OF 'conduitlaw01.DatumPrints'. -/
def datumPrintsUptoCard : Claim7 := { stood := { row := datumPrintsUptoRow, standIns := [], harness := (true, "1923507b371831864af719c430bdea72b0f2ca599107aafeb1228c24a7600d91"), looks := true }, kinds := [], alts := [], laidByText := true, laidKinds := [.data, .data, .data, .sentinel, .sentinel], laidTests := true, laidLooks := .later }
def DatumPrintsUptoCardSaid : Prop := Claim7.holds Tryd.pinned (.plain (OpenSpec.upto datumPrintsSpec)) datumPrintsUptoCard

/-- THE SECOND FORM's CARD OF 'conduitlaw01.DatumParses'. -/
def datumParsesUptoCard : Claim7 := { stood := { row := datumParsesUptoRow, standIns := [], harness := (true, "1923507b371831864af719c430bdea72b0f2ca599107aafeb1228c24a7600d91"), looks := true }, kinds := [], alts := [], laidByText := true, laidKinds := [.data, .data, .data, .sentinel, .sentinel], laidTests := true, laidLooks := .later }
def DatumParsesUptoCardSaid : Prop := Claim7.holds Tryd.pinned (.plain (OpenSpec.upto datumParsesSpec)) datumParsesUptoCard

/-- THE SECOND FORM's CARD OF 'conduitlaw01.DatumValid'. -/
def datumValidUptoCard : Claim7 := { stood := { row := datumValidUptoRow, standIns := [], harness := (true, "1923507b371831864af719c430bdea72b0f2ca599107aafeb1228c24a7600d91"), looks := true }, kinds := [], alts := [], laidByText := true, laidKinds := [.data, .data, .data, .sentinel, .sentinel], laidTests := true, laidLooks := .later }
def DatumValidUptoCardSaid : Prop := Claim7.holds Tryd.pinned (.plain (OpenSpec.upto datumValidSpec)) datumValidUptoCard

/-- THE SECOND FORM's CARD OF 'conduitlaw01.DatumTexts'. -/
def datumTextsUptoCard : Claim7 := { stood := { row := datumTextsUptoRow, standIns := [], harness := (true, "1923507b371831864af719c430bdea72b0f2ca599107aafeb1228c24a7600d91"), looks := true }, kinds := [], alts := [], laidByText := true, laidKinds := [.data, .data, .data, .sentinel, .sentinel], laidTests := true, laidLooks := .later }
def DatumTextsUptoCardSaid : Prop := Claim7.holds Tryd.pinned (.plain (OpenSpec.upto datumTextsSpec)) datumTextsUptoCard

/-- THE SECOND FORM's CARD OF 'conduitlaw01.DatumGroups'. -/
def datumGroupsUptoCard : Claim7 := { stood := { row := datumGroupsUptoRow, standIns := [], harness := (true, "1923507b371831864af719c430bdea72b0f2ca599107aafeb1228c24a7600d91"), looks := true }, kinds := [], alts := [], laidByText := true, laidKinds := [.data, .data, .data, .sentinel, .sentinel], laidTests := true, laidLooks := .later }
def DatumGroupsUptoCardSaid : Prop := Claim7.holds Tryd.pinned (.plain (OpenSpec.upto datumGroupsSpec)) datumGroupsUptoCard

/-- THE SECOND FORM's CARD OF 'conduitlaw01.DatumOwn'. -/
def datumOwnUptoCard : Claim7 := { stood := { row := datumOwnUptoRow, standIns := [], harness := (true, "1923507b371831864af719c430bdea72b0f2ca599107aafeb1228c24a7600d91"), looks := true }, kinds := [], alts := [], laidByText := true, laidKinds := [.data, .data, .data, .sentinel, .sentinel], laidTests := true, laidLooks := .later }
def DatumOwnUptoCardSaid : Prop := Claim7.holds Tryd.pinned (.plain (OpenSpec.upto datumOwnSpec)) datumOwnUptoCard

/-- THE SECOND FORM's CARD OF 'conduitlaw01.DatumEquals'. -/
def datumEqualsUptoCard : Claim7 := { stood := { row := datumEqualsUptoRow, standIns := [], harness := (true, "1923507b371831864af719c430bdea72b0f2ca599107aafeb1228c24a7600d91"), looks := true }, kinds := [], alts := [], laidByText := true, laidKinds := [.data, .data, .data, .sentinel, .sentinel], laidTests := true, laidLooks := .later }
def DatumEqualsUptoCardSaid : Prop := Claim7.holds Tryd.pinned (.plain (OpenSpec.upto datumEqualsSpec)) datumEqualsUptoCard

/-- THE SECOND FORM's CARD OF 'conduitlaw01.DatumMirrors'. -/
def datumMirrorsUptoCard : Claim7 := { stood := { row := datumMirrorsUptoRow, standIns := [], harness := (true, "1923507b371831864af719c430bdea72b0f2ca599107aafeb1228c24a7600d91"), looks := true }, kinds := [], alts := [], laidByText := true, laidKinds := [.data, .data, .data, .sentinel, .sentinel], laidTests := true, laidLooks := .later }
def DatumMirrorsUptoCardSaid : Prop := Claim7.holds Tryd.pinned (.plain (OpenSpec.upto datumMirrorsSpec)) datumMirrorsUptoCard

/-- THE SECOND FORM's CARD OF 'conduitlaw01.DatumGrouped'. -/
def datumGroupedUptoCard : Claim7 := { stood := { row := datumGroupedUptoRow, standIns := [], harness := (true, "1923507b371831864af719c430bdea72b0f2ca599107aafeb1228c24a7600d91"), looks := true }, kinds := [], alts := [], laidByText := true, laidKinds := [.data, .data, .data, .sentinel, .sentinel], laidTests := true, laidLooks := .later }
def DatumGroupedUptoCardSaid : Prop := Claim7.holds Tryd.pinned (.plain (OpenSpec.upto datumGroupedSpec)) datumGroupedUptoCard
end Rows
end Go.Proofs.YtofpdhkdnbnobaaDoor
