/-
  DERIVED. GIVEN WITH THE SEED: THE CARDS: each row of YtbldidiibkcelaaGreatDoorRows.lean that lists a variable, with what it lists TIED to the program's text (the seventh form; the later family's looks); each row that meets fmt, with fmt's text TOLD by the authors' own Lean function (tested against real Go, not proved from fmt's source: count such statements apart). THE CARD IS WHAT COUNTS. Prove the row's statement (the work); the ties are given (YtbldidiibkcelaaGreatDoorTie.lean); close each card by the builder's one call (the guide's Derived/Test/ToyasCard.lean, 'card_holds'). Laid BY PROGRAM, IN A SANDBOX (cutbox-door.mjs). By AI agents, Wed Nov 11 2026. No macro, syntax, notation, axiom, sorry.
-/
import Derived.Test.YtbldidiibkcelaaGreatDoorRows
import GoSem.ClaimSeven
namespace Go.Proofs.YtbldidiibkcelaaGreatDoor
namespace Rows

/-- THE TIED CARD OF 'conduitlaw35.ErrsCompares'. -/
def errsComparesCard : Claim7 := { stood := { row := errsComparesRow, standIns := [], harness := (true, "4da6dd07b35e7d82970102e670fc68711a67e3c8a46fc815a9af7e09d11ffd05"), looks := true }, kinds := [], alts := [], laidByText := true, laidKinds := [.sentinel], laidTests := true, laidLooks := .later }
def ErrsComparesCardSaid : Prop := Claim7.holds Tryz.pinned (.plain (OpenSpec.ofChange errsComparesSpec)) errsComparesCard

/-- THE TIED CARD OF 'conduitlaw35.ErrsValid'. -/
def errsValidCard : Claim7 := { stood := { row := errsValidRow, standIns := [], harness := (true, "4da6dd07b35e7d82970102e670fc68711a67e3c8a46fc815a9af7e09d11ffd05"), looks := true }, kinds := [], alts := [], laidByText := true, laidKinds := [.sentinel], laidTests := true, laidLooks := .later }
def ErrsValidCardSaid : Prop := Claim7.holds Tryz.pinned (.plain (OpenSpec.ofChange errsValidSpec)) errsValidCard

/-- THE TIED CARD OF 'conduitlaw35.ErrsJoins'. -/
def errsJoinsCard : Claim7 := { stood := { row := errsJoinsRow, standIns := [], harness := (true, "4da6dd07b35e7d82970102e670fc68711a67e3c8a46fc815a9af7e09d11ffd05"), looks := true }, kinds := [], alts := [], laidByText := true, laidKinds := [.sentinel], laidTests := true, laidLooks := .later }
def ErrsJoinsCardSaid : Prop := Claim7.holds Tryz.pinned (.plain (OpenSpec.ofChange errsJoinsSpec)) errsJoinsCard

/-- THE TIED CARD OF 'conduitlaw35.ErrsUnwraps'. -/
def errsUnwrapsCard : Claim7 := { stood := { row := errsUnwrapsRow, standIns := [], harness := (true, "4da6dd07b35e7d82970102e670fc68711a67e3c8a46fc815a9af7e09d11ffd05"), looks := true }, kinds := [], alts := [], laidByText := true, laidKinds := [.sentinel], laidTests := true, laidLooks := .later }
def ErrsUnwrapsCardSaid : Prop := Claim7.holds Tryz.pinned (.plain (OpenSpec.ofChange errsUnwrapsSpec)) errsUnwrapsCard

/-- THE TIED CARD OF 'conduitlaw35.ErrsTells'. -/
def errsTellsCard : Claim7 := { stood := { row := errsTellsRow, standIns := [], harness := (true, "4da6dd07b35e7d82970102e670fc68711a67e3c8a46fc815a9af7e09d11ffd05"), looks := true }, kinds := [], alts := [], laidByText := true, laidKinds := [.data, .data, .data, .handle, .sentinel], laidTests := true, laidLooks := .later }
def ErrsTellsCardSaid : Prop := Claim7.holds Tryz.pinned (.plain (OpenSpec.ofChange errsTellsSpec)) errsTellsCard

/-- THE TIED CARD OF 'conduitlaw35.ErrsAs'. -/
def errsAsCard : Claim7 := { stood := { row := errsAsRow, standIns := [], harness := (true, "4da6dd07b35e7d82970102e670fc68711a67e3c8a46fc815a9af7e09d11ffd05"), looks := true }, kinds := [], alts := [], laidByText := true, laidKinds := [.handle, .sentinel], laidTests := true, laidLooks := .later }
def ErrsAsCardSaid : Prop := Claim7.holds Tryz.pinned (.plain (OpenSpec.ofChange errsAsSpec)) errsAsCard

/-- THE TIED CARD OF 'conduitlaw35.ErrsFirst'. -/
def errsFirstCard : Claim7 := { stood := { row := errsFirstRow, standIns := [], harness := (true, "4da6dd07b35e7d82970102e670fc68711a67e3c8a46fc815a9af7e09d11ffd05"), looks := true }, kinds := [], alts := [], laidByText := true, laidKinds := [.handle, .sentinel], laidTests := true, laidLooks := .later }
def ErrsFirstCardSaid : Prop := Claim7.holds Tryz.pinned (.plain (OpenSpec.ofChange errsFirstSpec)) errsFirstCard

/-- THE SECOND FORM's CARD OF 'conduitlaw35.ErrsCompares'. -/
def errsComparesUptoCard : Claim7 := { stood := { row := errsComparesUptoRow, standIns := [], harness := (true, "4da6dd07b35e7d82970102e670fc68711a67e3c8a46fc815a9af7e09d11ffd05"), looks := true }, kinds := [], alts := [], laidByText := true, laidKinds := [.sentinel], laidTests := true, laidLooks := .later }
def ErrsComparesUptoCardSaid : Prop := Claim7.holds Tryz.pinned (.plain (OpenSpec.upto errsComparesSpec)) errsComparesUptoCard

/-- THE SECOND FORM's CARD OF 'conduitlaw35.ErrsValid'. -/
def errsValidUptoCard : Claim7 := { stood := { row := errsValidUptoRow, standIns := [], harness := (true, "4da6dd07b35e7d82970102e670fc68711a67e3c8a46fc815a9af7e09d11ffd05"), looks := true }, kinds := [], alts := [], laidByText := true, laidKinds := [.sentinel], laidTests := true, laidLooks := .later }
def ErrsValidUptoCardSaid : Prop := Claim7.holds Tryz.pinned (.plain (OpenSpec.upto errsValidSpec)) errsValidUptoCard

/-- THE SECOND FORM's CARD OF 'conduitlaw35.ErrsJoins'. -/
def errsJoinsUptoCard : Claim7 := { stood := { row := errsJoinsUptoRow, standIns := [], harness := (true, "4da6dd07b35e7d82970102e670fc68711a67e3c8a46fc815a9af7e09d11ffd05"), looks := true }, kinds := [], alts := [], laidByText := true, laidKinds := [.sentinel], laidTests := true, laidLooks := .later }
def ErrsJoinsUptoCardSaid : Prop := Claim7.holds Tryz.pinned (.plain (OpenSpec.upto errsJoinsSpec)) errsJoinsUptoCard

/-- THE SECOND FORM's CARD OF 'conduitlaw35.ErrsUnwraps'. -/
def errsUnwrapsUptoCard : Claim7 := { stood := { row := errsUnwrapsUptoRow, standIns := [], harness := (true, "4da6dd07b35e7d82970102e670fc68711a67e3c8a46fc815a9af7e09d11ffd05"), looks := true }, kinds := [], alts := [], laidByText := true, laidKinds := [.sentinel], laidTests := true, laidLooks := .later }
def ErrsUnwrapsUptoCardSaid : Prop := Claim7.holds Tryz.pinned (.plain (OpenSpec.upto errsUnwrapsSpec)) errsUnwrapsUptoCard

/-- THE SECOND FORM's CARD OF 'conduitlaw35.ErrsTells'. -/
def errsTellsUptoCard : Claim7 := { stood := { row := errsTellsUptoRow, standIns := [], harness := (true, "4da6dd07b35e7d82970102e670fc68711a67e3c8a46fc815a9af7e09d11ffd05"), looks := true }, kinds := [], alts := [], laidByText := true, laidKinds := [.data, .data, .data, .handle, .sentinel], laidTests := true, laidLooks := .later }
def ErrsTellsUptoCardSaid : Prop := Claim7.holds Tryz.pinned (.plain (OpenSpec.upto errsTellsSpec)) errsTellsUptoCard

/-- THE SECOND FORM's CARD OF 'conduitlaw35.ErrsAs'. -/
def errsAsUptoCard : Claim7 := { stood := { row := errsAsUptoRow, standIns := [], harness := (true, "4da6dd07b35e7d82970102e670fc68711a67e3c8a46fc815a9af7e09d11ffd05"), looks := true }, kinds := [], alts := [], laidByText := true, laidKinds := [.handle, .sentinel], laidTests := true, laidLooks := .later }
def ErrsAsUptoCardSaid : Prop := Claim7.holds Tryz.pinned (.plain (OpenSpec.upto errsAsSpec)) errsAsUptoCard

/-- THE SECOND FORM's CARD OF 'conduitlaw35.ErrsFirst'. -/
def errsFirstUptoCard : Claim7 := { stood := { row := errsFirstUptoRow, standIns := [], harness := (true, "4da6dd07b35e7d82970102e670fc68711a67e3c8a46fc815a9af7e09d11ffd05"), looks := true }, kinds := [], alts := [], laidByText := true, laidKinds := [.handle, .sentinel], laidTests := true, laidLooks := .later }
def ErrsFirstUptoCardSaid : Prop := Claim7.holds Tryz.pinned (.plain (OpenSpec.upto errsFirstSpec)) errsFirstUptoCard
end Rows
end Go.Proofs.YtbldidiibkcelaaGreatDoor
