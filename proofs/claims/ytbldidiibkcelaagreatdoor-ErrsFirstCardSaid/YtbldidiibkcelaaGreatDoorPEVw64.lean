/-
  The walk by the visitor f64 (walk). Not a statement of the seat.
-/
import Derived.Test.YtbldidiibkcelaaGreatDoorPEVis
namespace Go.Proofs.YtbldidiibkcelaaGreatDoor
open Go.RowKit

def F64 (ob : Nat) : Value := .func (Fn.func 64) #[] #[.pointer (some ⟨ob, 0, none⟩)]
section
variable {σ : Type} {st : σ → World → Prop} {N : σ → Nat → Prop} {step : σ → Et → List Int → σ × Bool}
/-- between two rounds -/
def WmV (st : σ → World → Prop) (N : σ → Nat → Prop) (step : σ → Et → List Int → σ × Bool) (S : Nat → Prop) (wb : Nat) (FV : Value) (kids : Eo) (s : σ) (way : List Int) (wv : Value) (a : Option Addr) (m c : Nat) (vs : List Value) (w1 : World) (res : σ × Bool) (t34 : Value) (wr : World) : Prop :=
  ∃ (dn rest : Eo) (s2 : σ), t34 = .int .i64 (dn.len : Nat) ∧ kids = dn.app rest ∧ EVs S (N s2) wr rest (vs.drop dn.len) ∧ VK st N s s2 w1 wr ∧ Blk wr wb [wv] ∧ Blk wr (wb + 1) [FV] ∧ ¬ N s2 wb ∧ ¬ N s2 (wb + 1) ∧ Row 0 wr 1 a m c vs ∧ (∀ x, blockOf a = some x → ¬ N s2 x) ∧ visL step rest s2 way dn.len = res
theorem vis_pos {s : σ} {e : Et} {way : List Int} (h : e.k ≠ 0) : vis1 step s e way = if (step s e way).2 = true then visL step e.l (step s e way).1 way 0 else ((step s e way).1, false) := by
  unfold vis1
  rw [if_neg h]
end
end Go.Proofs.YtbldidiibkcelaaGreatDoor

