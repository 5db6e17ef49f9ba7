/-
  The walk by the visitor f64 (walk). Not a statement of the seat.
-/
import Derived.Test.YtbldidiibkcelaaGreatDoorTEVis
namespace Go.Proofs.YtbldidiibkcelaaGreatDoor
open Go.RowKit

def F64 (ob : Nat) : Value := .func (Fn.func 64) #[] #[.pointer (some ⟨ob, 0, none⟩)]
section
variable {σ : Type} {st : σ → World → Prop} {N : σ → Nat → Prop} {step : σ → Et → List Int → σ × Bool}
theorem vis_pos {s : σ} {e : Et} {way : List Int} (h : e.k ≠ 0) : vis1 step s e way = if (step s e way).2 = true then visL step e.l (step s e way).1 way 0 else ((step s e way).1, false) := by
  unfold vis1
  rw [if_neg h]
end
end Go.Proofs.YtbldidiibkcelaaGreatDoor

