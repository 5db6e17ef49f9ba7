/-
  DERIVED. GIVEN WITH THE SEED: THE CARDS: each row of YtigfgdefgnahpaaDoorRows.lean that lists a variable, with what it lists TIED to the program's text (the seventh form; the later family's looks); each row that meets fmt, with fmt's text TOLD by the authors' own Lean function (tested against real Go, not proved from fmt's source: count such statements apart). THE CARD IS WHAT COUNTS. Prove the row's statement (the work); the ties are given (YtigfgdefgnahpaaDoorTie.lean); close each card by the builder's one call (the guide's Derived/Test/ToyasCard.lean, 'card_holds'). Laid BY PROGRAM, IN A SANDBOX (cutbox-door.mjs). By AI agents, Wed Nov 11 2026. No macro, syntax, notation, axiom, sorry.
-/
import Derived.Test.YtigfgdefgnahpaaDoorRows
import GoSem.ClaimSeven
namespace Go.Proofs.YtigfgdefgnahpaaDoor
namespace Rows

/-- THE TIED CARD OF 'conduitlaw36.PipeCopies'. -/
def pipeCopiesCard : Claim7 := { stood := { row := pipeCopiesRow, standIns := [], harness := (true, "ba51c22b402af90721a96615aefbaf83029e5c4ccb04267628ac41d826fc7b68"), looks := true }, kinds := [], alts := [], laidByText := true, laidKinds := [.handle, .sentinel], laidTests := true, laidLooks := .later }
def PipeCopiesCardSaid : Prop := Claim7.holds Tryd.pinned (.plain (OpenSpec.ofChange pipeCopiesSpec)) pipeCopiesCard

/-- THE TIED CARD OF 'conduitlaw36.PipeWays'. -/
def pipeWaysCard : Claim7 := { stood := { row := pipeWaysRow, standIns := [], harness := (true, "ba51c22b402af90721a96615aefbaf83029e5c4ccb04267628ac41d826fc7b68"), looks := true }, kinds := [], alts := [], laidByText := true, laidKinds := [.handle, .sentinel], laidTests := true, laidLooks := .later }
def PipeWaysCardSaid : Prop := Claim7.holds Tryd.pinned (.plain (OpenSpec.ofChange pipeWaysSpec)) pipeWaysCard

/-- THE TIED CARD OF 'conduitlaw36.PipeLoses'. -/
def pipeLosesCard : Claim7 := { stood := { row := pipeLosesRow, standIns := [], harness := (true, "ba51c22b402af90721a96615aefbaf83029e5c4ccb04267628ac41d826fc7b68"), looks := true }, kinds := [], alts := [], laidByText := true, laidKinds := [.handle, .sentinel], laidTests := true, laidLooks := .later }
def PipeLosesCardSaid : Prop := Claim7.holds Tryd.pinned (.plain (OpenSpec.ofChange pipeLosesSpec)) pipeLosesCard

/-- THE TIED CARD OF 'conduitlaw36.PipeTells'. -/
def pipeTellsCard : Claim7 := { stood := { row := pipeTellsRow, standIns := [], harness := (true, "ba51c22b402af90721a96615aefbaf83029e5c4ccb04267628ac41d826fc7b68"), looks := true }, kinds := [], alts := [], laidByText := true, laidKinds := [.handle, .sentinel], laidTests := true, laidLooks := .later }
def PipeTellsCardSaid : Prop := Claim7.holds Tryd.pinned (.plain (OpenSpec.ofChange pipeTellsSpec)) pipeTellsCard

/-- THE TIED CARD OF 'conduitlaw36.PipeHides'. -/
def pipeHidesCard : Claim7 := { stood := { row := pipeHidesRow, standIns := [], harness := (true, "ba51c22b402af90721a96615aefbaf83029e5c4ccb04267628ac41d826fc7b68"), looks := true }, kinds := [], alts := [], laidByText := true, laidKinds := [.handle, .sentinel], laidTests := true, laidLooks := .later }
def PipeHidesCardSaid : Prop := Claim7.holds Tryd.pinned (.plain (OpenSpec.ofChange pipeHidesSpec)) pipeHidesCard

/-- THE TIED CARD OF 'conduitlaw36.PipeCounts'. -/
def pipeCountsCard : Claim7 := { stood := { row := pipeCountsRow, standIns := [], harness := (true, "ba51c22b402af90721a96615aefbaf83029e5c4ccb04267628ac41d826fc7b68"), looks := true }, kinds := [], alts := [], laidByText := true, laidKinds := [.handle, .sentinel], laidTests := true, laidLooks := .later }
def PipeCountsCardSaid : Prop := Claim7.holds Tryd.pinned (.plain (OpenSpec.ofChange pipeCountsSpec)) pipeCountsCard

/-- THE TIED CARD OF 'conduitlaw36.PipeReads'. -/
def pipeReadsCard : Claim7 := { stood := { row := pipeReadsRow, standIns := [], harness := (true, "ba51c22b402af90721a96615aefbaf83029e5c4ccb04267628ac41d826fc7b68"), looks := true }, kinds := [], alts := [], laidByText := true, laidKinds := [.handle, .sentinel], laidTests := true, laidLooks := .later }
def PipeReadsCardSaid : Prop := Claim7.holds Tryd.pinned (.plain (OpenSpec.ofChange pipeReadsSpec)) pipeReadsCard

/-- THE TIED CARD OF 'conduitlaw36.PipeFits'. -/
def pipeFitsCard : Claim7 := { stood := { row := pipeFitsRow, standIns := [], harness := (true, "ba51c22b402af90721a96615aefbaf83029e5c4ccb04267628ac41d826fc7b68"), looks := true }, kinds := [], alts := [], laidByText := true, laidKinds := [.handle, .sentinel], laidTests := true, laidLooks := .later }
def PipeFitsCardSaid : Prop := Claim7.holds Tryd.pinned (.plain (OpenSpec.ofChange pipeFitsSpec)) pipeFitsCard

/-- THE SECOND FORM's CARD OF 'conduitlaw36.PipeCopies'. -/
def pipeCopiesUptoCard : Claim7 := { stood := { row := pipeCopiesUptoRow, standIns := [], harness := (true, "ba51c22b402af90721a96615aefbaf83029e5c4ccb04267628ac41d826fc7b68"), looks := true }, kinds := [], alts := [], laidByText := true, laidKinds := [.handle, .sentinel], laidTests := true, laidLooks := .later }
def PipeCopiesUptoCardSaid : Prop := Claim7.holds Tryd.pinned (.plain (OpenSpec.upto pipeCopiesSpec)) pipeCopiesUptoCard

/-- THE SECOND FORM's CARD OF 'conduitlaw36.PipeWays'. -/
def pipeWaysUptoCard : Claim7 := { stood := { row := pipeWaysUptoRow, standIns := [], harness := (true, "ba51c22b402af90721a96615aefbaf83029e5c4ccb04267628ac41d826fc7b68"), looks := true }, kinds := [], alts := [], laidByText := true, laidKinds := [.handle, .sentinel], laidTests := true, laidLooks := .later }
def PipeWaysUptoCardSaid : Prop := Claim7.holds Tryd.pinned (.plain (OpenSpec.upto pipeWaysSpec)) pipeWaysUptoCard

/-- THE SECOND FORM's CARD OF 'conduitlaw36.PipeLoses'. -/
def pipeLosesUptoCard : Claim7 := { stood := { row := pipeLosesUptoRow, standIns := [], harness := (true, "ba51c22b402af90721a96615aefbaf83029e5c4ccb04267628ac41d826fc7b68"), looks := true }, kinds := [], alts := [], laidByText := true, laidKinds := [.handle, .sentinel], laidTests := true, laidLooks := .later }
def PipeLosesUptoCardSaid : Prop := Claim7.holds Tryd.pinned (.plain (OpenSpec.upto pipeLosesSpec)) pipeLosesUptoCard

/-- THE SECOND FORM's CARD OF 'conduitlaw36.PipeTells'. -/
def pipeTellsUptoCard : Claim7 := { stood := { row := pipeTellsUptoRow, standIns := [], harness := (true, "ba51c22b402af90721a96615aefbaf83029e5c4ccb04267628ac41d826fc7b68"), looks := true }, kinds := [], alts := [], laidByText := true, laidKinds := [.handle, .sentinel], laidTests := true, laidLooks := .later }
def PipeTellsUptoCardSaid : Prop := Claim7.holds Tryd.pinned (.plain (OpenSpec.upto pipeTellsSpec)) pipeTellsUptoCard

/-- THE SECOND FORM's CARD OF 'conduitlaw36.PipeHides'. -/
def pipeHidesUptoCard : Claim7 := { stood := { row := pipeHidesUptoRow, standIns := [], harness := (true, "ba51c22b402af90721a96615aefbaf83029e5c4ccb04267628ac41d826fc7b68"), looks := true }, kinds := [], alts := [], laidByText := true, laidKinds := [.handle, .sentinel], laidTests := true, laidLooks := .later }
def PipeHidesUptoCardSaid : Prop := Claim7.holds Tryd.pinned (.plain (OpenSpec.upto pipeHidesSpec)) pipeHidesUptoCard

/-- THE SECOND FORM's CARD OF 'conduitlaw36.PipeCounts'. -/
def pipeCountsUptoCard : Claim7 := { stood := { row := pipeCountsUptoRow, standIns := [], harness := (true, "ba51c22b402af90721a96615aefbaf83029e5c4ccb04267628ac41d826fc7b68"), looks := true }, kinds := [], alts := [], laidByText := true, laidKinds := [.handle, .sentinel], laidTests := true, laidLooks := .later }
def PipeCountsUptoCardSaid : Prop := Claim7.holds Tryd.pinned (.plain (OpenSpec.upto pipeCountsSpec)) pipeCountsUptoCard

/-- THE SECOND FORM's CARD OF 'conduitlaw36.PipeReads'. -/
def pipeReadsUptoCard : Claim7 := { stood := { row := pipeReadsUptoRow, standIns := [], harness := (true, "ba51c22b402af90721a96615aefbaf83029e5c4ccb04267628ac41d826fc7b68"), looks := true }, kinds := [], alts := [], laidByText := true, laidKinds := [.handle, .sentinel], laidTests := true, laidLooks := .later }
def PipeReadsUptoCardSaid : Prop := Claim7.holds Tryd.pinned (.plain (OpenSpec.upto pipeReadsSpec)) pipeReadsUptoCard

/-- THE SECOND FORM's CARD OF 'conduitlaw36.PipeFits'. -/
def pipeFitsUptoCard : Claim7 := { stood := { row := pipeFitsUptoRow, standIns := [], harness := (true, "ba51c22b402af90721a96615aefbaf83029e5c4ccb04267628ac41d826fc7b68"), looks := true }, kinds := [], alts := [], laidByText := true, laidKinds := [.handle, .sentinel], laidTests := true, laidLooks := .later }
def PipeFitsUptoCardSaid : Prop := Claim7.holds Tryd.pinned (.plain (OpenSpec.upto pipeFitsSpec)) pipeFitsUptoCard
end Rows
end Go.Proofs.YtigfgdefgnahpaaDoor
