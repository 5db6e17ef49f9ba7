/-
  The document's Walk (walk). Not a statement of the seat.
-/
import Derived.Test.YtbldidiibkcelaaGreatDoorPEWays
namespace Go.Proofs.YtbldidiibkcelaaGreatDoor
open Go.RowKit

theorem I8_one (cs : List Int) : ∀ u ∈ I8 cs, u.oneCell' = true := fun u hu => by
  simp only [I8, List.mem_map] at hu
  obtain ⟨x, _, rfl⟩ := hu
  rfl
end Go.Proofs.YtbldidiibkcelaaGreatDoor

