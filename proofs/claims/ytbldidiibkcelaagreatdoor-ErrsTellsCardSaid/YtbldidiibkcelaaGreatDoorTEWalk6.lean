/-
  The walk through an error value, kind by kind (walks). Not a statement of the seat.
-/
import Derived.Test.YtbldidiibkcelaaGreatDoorTEWalk1
namespace Go.Proofs.YtbldidiibkcelaaGreatDoor
open Go.RowKit

theorem ISP.tail {a0 : Addr} {h : Bool × Int} {fb : Nat} {w w1 : World} {e : Ending} {w' : World} (hK : Kept (N1 fb) w w1) (hI : ISP a0 h fb w1 e w') : ISP a0 h fb w e w' := ⟨hK.tail hI.1 (fun _ _ h => h), hI.2⟩
theorem nilEV {S N : Nat → Prop} {w : World} : EVAt S N w ⟨0, 0, 0, [], Dt.zero, [], .nil⟩ .nilIface := by
  refine ⟨none, 0, 0, none, 0, 0, none, 0, 0, 0, 0, rfl, ⟨FoAt.nil _ _, ⟨Rd.nil _ _, fun _ h => absurd h (by omega)⟩, EoAt.nil _ _⟩, fun e => ?_, fun e => ?_⟩
  · exact absurd (show (0 : Int) = 5 from e) (by decide)
  · exact absurd (show (0 : Int) = 2 ∨ (0 : Int) = 3 ∨ (0 : Int) = 4 ∨ (0 : Int) = 8 ∨ (0 : Int) = 9 from e) (by decide)
theorem m108u (v : Value) (w : World) : (method 389 108 v "Unwrap").run Tryz.prog w = .ok (187, v) w := by kernel_rfl
end Go.Proofs.YtbldidiibkcelaaGreatDoor

