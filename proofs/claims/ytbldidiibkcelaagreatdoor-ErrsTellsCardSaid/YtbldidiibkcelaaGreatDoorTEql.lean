/-
  '==' of two interface values of this program (plain runs). Not a statement of the seat.
-/
import Derived.Test.YtbldidiibkcelaaGreatDoorTREqual
import Derived.Stop.Asserts
import Derived.Test.YtbldidiibkcelaaGreatDoorTHeldL
import Derived.Recover
import Derived.Test.YtbldidiibkcelaaGreatDoorTEFields
namespace Go.Proofs.YtbldidiibkcelaaGreatDoor
open Go.RowKit
def isPw (r : Result Value) (w : World) : Prop := match r with | .halt (.panic (.iface _ _)) w' => w' = w | _ => False
theorem isPw.out {r : Result Value} {w : World} (h : isPw r w) : ∃ u v, r = .halt (.panic (.iface u v)) w := by
  unfold isPw at h
  split at h
  · exact ⟨_, _, by rw [h]⟩
  · cases h
theorem isPw.of {r : Result Value} {w : World} (h : isPw r w = (w = w)) : ∃ u v, r = .halt (.panic (.iface u v)) w := by
  rw [eq_self] at h
  exact isPw.out (of_eq_true h)
theorem ba_beq (t t' : Bs) : ((⟨t.toArray⟩ : ByteArray) == ⟨t'.toArray⟩) = (t == t') := by
  show (t.toArray == t'.toArray) = _
  simp
end Go.Proofs.YtbldidiibkcelaaGreatDoor

/-
  equal (walk). Not a statement of the seat.
-/
namespace Go.Proofs.YtbldidiibkcelaaGreatDoor
open Go.RowKit

/-- what equal comes to -/
def EQP (r : Bool × Int) (w : World) (e : Ending) (w' : World) : Prop :=
  Below w.heap.size w w' ∧ ((r.2 = 0 ∧ e = .returned (.bool r.1)) ∨ (r = (false, 10) ∧ ∃ u v, e = .panicked [{ v := .iface u v, recovered := false }]))
theorem EQP.t {w w' : World} {e : Ending} (h : EQP (true, 0) w e w') : e = .returned (.bool true) ∧ Below w.heap.size w w' := by
  rcases h with ⟨h, ⟨_, h1⟩ | ⟨h1, _⟩⟩
  · exact ⟨h1, h⟩
  · exact absurd h1 (by decide)
theorem EQP.f {w w' : World} {e : Ending} (h : EQP (false, 0) w e w') : e = .returned (.bool false) ∧ Below w.heap.size w w' := by
  rcases h with ⟨h, ⟨_, h1⟩ | ⟨h1, _⟩⟩
  · exact ⟨h1, h⟩
  · exact absurd h1 (by decide)
theorem EQP.p {w w' : World} {e : Ending} (h : EQP (false, 10) w e w') : (∃ u v, e = .panicked [{ v := .iface u v, recovered := false }]) ∧ Below w.heap.size w w' := by
  rcases h with ⟨h, ⟨h1, _⟩ | ⟨_, h1⟩⟩
  · exact absurd h1 (by decide)
  · exact ⟨h1, h⟩
end Go.Proofs.YtbldidiibkcelaaGreatDoor

/-
  Equal (walk). Not a statement of the seat.
-/
namespace Go.Proofs.YtbldidiibkcelaaGreatDoor
open Go.RowKit

end Go.Proofs.YtbldidiibkcelaaGreatDoor

/-
  == of two errors (walk). Not a statement of the seat.
-/
namespace Go.Proofs.YtbldidiibkcelaaGreatDoor
open Go.RowKit

def LB (a : Addr) (w : World) : Prop := w.cell? ⟨0, 0, none⟩ = some (.iface 228 (.pointer (some a)))
theorem LB.below {a : Addr} {w w' : World} (h : LB a w) (hB : Below w.heap.size w w') : LB a w' := cellAt hB h
end Go.Proofs.YtbldidiibkcelaaGreatDoor

/-
  compared, Equal (walks). Not a statement of the seat.
-/
namespace Go.Proofs.YtbldidiibkcelaaGreatDoor
open Go.RowKit

end Go.Proofs.YtbldidiibkcelaaGreatDoor

