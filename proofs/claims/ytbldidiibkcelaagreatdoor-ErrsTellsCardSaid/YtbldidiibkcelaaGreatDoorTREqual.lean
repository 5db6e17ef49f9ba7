/-
  The document's Equal (walk). Not a statement of the seat.
-/
import Derived.Test.YtbldidiibkcelaaGreatDoorTMaps
import Derived.Test.YtbldidiibkcelaaGreatDoorTERValid
namespace Go.Proofs.YtbldidiibkcelaaGreatDoor
open Go.RowKit

end Go.Proofs.YtbldidiibkcelaaGreatDoor

/-
  The document's Equal of two errors (walk). Not a statement of the seat.
-/
namespace Go.Proofs.YtbldidiibkcelaaGreatDoor
open Go.RowKit

/-- a value that may be compared -/
def okB (b : Dt) : Prop := fitsM b.k b.i b.b b.t b.l.len = true ∧ rightM b.l = true ∧ sizeF b.l ≤ 100000
theorem okB_of {b : Dt} (h : validD b = true) : okB b := by
  rw [valid_eq] at h
  by_cases hk : okD b
  · obtain ⟨h1, _, h3⟩ := hk
    rw [right_fo, Bool.and_eq_true] at h3
    exact ⟨h3.1, h3.2, by omega⟩
  · rw [(valid_bad hk).2] at h; cases h
theorem okB.two {b : Dt} (h : okB b) : b.k = 9 → b.l.len = 2 := fun e => by
  have := h.1
  rw [e] at this
  simp [fitsM] at this
  omega
end Go.Proofs.YtbldidiibkcelaaGreatDoor

