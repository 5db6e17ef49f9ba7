/-
  Is's inner closure at an error value (walks). Not a statement of the seat.
-/
import Derived.Test.YtbldidiibkcelaaGreatDoorTEMade
import Derived.Test.YtbldidiibkcelaaGreatDoorTHeldL
namespace Go.Proofs.YtbldidiibkcelaaGreatDoor
open Go.RowKit

theorem made144 (v : Value) (w : World) : (method 389 89 v "conduit/errs.made").run Tryz.prog w = .ok (144, v) w := by kernel_rfl
theorem made154 (v : Value) (w : World) : (method 389 103 v "conduit/errs.made").run Tryz.prog w = .ok (154, v) w := by kernel_rfl
theorem made164 (v : Value) (w : World) : (method 389 106 v "conduit/errs.made").run Tryz.prog w = .ok (164, v) w := by kernel_rfl
theorem made184 (v : Value) (w : World) : (method 389 107 v "conduit/errs.made").run Tryz.prog w = .ok (184, v) w := by kernel_rfl
theorem made188 (v : Value) (w : World) : (method 389 108 v "conduit/errs.made").run Tryz.prog w = .ok (188, v) w := by kernel_rfl
theorem made193 (v : Value) (w : World) : (method 389 109 v "conduit/errs.made").run Tryz.prog w = .ok (193, v) w := by kernel_rfl
theorem made197 (v : Value) (w : World) : (method 389 110 v "conduit/errs.made").run Tryz.prog w = .ok (197, v) w := by kernel_rfl
theorem made147' (v : Value) (w : World) : (method 389 101 v "conduit/errs.made").run Tryz.prog w = .ok (147, v) w := by kernel_rfl
theorem made150' (v : Value) (w : World) : (method 389 102 v "conduit/errs.made").run Tryz.prog w = .ok (150, v) w := by kernel_rfl
/-- what the closure comes to, at one error -/
def ISP (a0 : Addr) (h : Bool × Int) (fb : Nat) (w : World) (e : Ending) (w' : World) : Prop :=
  Kept (N1 fb) w w' ∧ ((h = (true, 0) ∧ e = .returned (.bool false) ∧ Blk w' fb [.bool true]) ∨ (h = (false, 0) ∧ e = .returned (.bool true) ∧ Blk w' fb [.bool false]) ∨ (h = (false, 10) ∧ e = .panicked [{ v := .iface 228 (.pointer (some a0)), recovered := false }]))
end Go.Proofs.YtbldidiibkcelaaGreatDoor

