/-
  Is of any two errors (walk). Not a statement of the seat.
-/
import Derived.Test.YtbldidiibkcelaaGreatDoorTEWalk7
namespace Go.Proofs.YtbldidiibkcelaaGreatDoor
open Go.RowKit

theorem vErr_if {k c : Int} {t : Bs} {cl : Option Addr} {cn cc q p : Nat} (h1 : 1 ≤ k) (h2 : k ≤ 10) : ∃ u x, vErr k c t cl cn cc q p = .iface u x := by
  rcases vErr_iface k c t cl cn cc q p with h | h
  · rcases kinds_cases k with rfl | rfl | rfl | rfl | rfl | rfl | rfl | rfl | rfl | rfl | ⟨z1, z2, z3, z4, z5, z6, z7, z8, z9, z10⟩
    all_goals first | omega | (exact absurd h (by simp [vErr]))
  · exact h
end Go.Proofs.YtbldidiibkcelaaGreatDoor

