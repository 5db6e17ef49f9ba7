/-
  The document's Equal (walk). Not a statement of the seat.
-/
import Derived.Test.YtbldidiibkcelaaGreatDoorPMaps
import Derived.Test.YtbldidiibkcelaaGreatDoorPERValid
namespace Go.Proofs.YtbldidiibkcelaaGreatDoor
open Go.RowKit

end Go.Proofs.YtbldidiibkcelaaGreatDoor

/-
  The document's Equal of two errors (walk). Not a statement of the seat.
-/
namespace Go.Proofs.YtbldidiibkcelaaGreatDoor
open Go.RowKit

/-- a value that may be compared -/
def okB (b : Dt) : Prop := fitsM b.k b.i b.b b.t b.l.len = true ∧ rightM b.l = true ∧ sizeF b.l ≤ 100000
theorem okB_of {b : Dt} (h : validD b = true) : okB b := by
  rw [valid_eq] at h
  by_cases hk : okD b
  · obtain ⟨h1, _, h3⟩ := hk
    rw [right_fo, Bool.and_eq_true] at h3
    exact ⟨h3.1, h3.2, by omega⟩
  · rw [(valid_bad hk).2] at h; cases h
theorem okB.two {b : Dt} (h : okB b) : b.k = 9 → b.l.len = 2 := fun e => by
  have := h.1
  rw [e] at this
  simp [fitsM] at this
  omega
def ktM (k : Int) : Int := if k = 7 then 2 else k
set_option maxRecDepth 100000 in
theorem ktN (k : Int) (w : World) : Calls Tryz.prog 44 #[.int .i64 k] w (fun e w' => e = .returned (.int .i64 (ktM k)) ∧ w' = w) := by
  by_cases h7 : k = 7
  · subst h7
    go_enter Tryz.func44, Tryz.ntmps44
    go_wp2_with fail
    go_ret
    exact ⟨rfl, rfl⟩
  · have he : (k == 7) = false := by simpa using h7
    have H7 := Lib.hid h7
    clear h7
    go_enter Tryz.func44, Tryz.ntmps44
    go_wp2_with fail
    go_ret
    exact ⟨by simp [ktM, H7.out], rfl⟩
end Go.Proofs.YtbldidiibkcelaaGreatDoor

