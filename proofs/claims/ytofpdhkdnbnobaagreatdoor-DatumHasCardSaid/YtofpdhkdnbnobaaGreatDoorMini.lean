/-
  Small words on values: size, shape, a boxed value; an element of a row by its place. Not a statement of the seat.
-/
import Derived.Test.YtofpdhkdnbnobaaGreatDoorPrint
namespace Go.Proofs.YtofpdhkdnbnobaaGreatDoor
open Go.RowKit

def sizeF : Fo → Nat
  | .nil => 0
  | .cons _ _ _ _ kids rest => 1 + sizeF kids + sizeF rest
/-- all are as their kinds have it -/
def rightM : Fo → Bool
  | .nil => true
  | .cons k i b t kids rest => (fitsM k i b t kids.len && rightM kids) && rightM rest
def boxD (w : World) (d : Dt) (l : Option Addr) (n c : Nat) : World := w.alloc (.cells #[.int .i64 d.k, .int .i64 d.i, .int .u64 d.b, .string ⟨d.t.toArray⟩, .slice l n c] 29)
def vsD (d : Dt) (l : Option Addr) (n c : Nat) : List Value := [.int .i64 d.k, .int .i64 d.i, .int .u64 d.b, .string ⟨d.t.toArray⟩, .slice l n c]
theorem boxD_blk (w : World) (d : Dt) (l : Option Addr) (n c : Nat) : Blk (boxD w d l n c) w.heap.size (vsD d l n c) := Blk.new w _ _
theorem boxD_below (w : World) (d : Dt) (l : Option Addr) (n c : Nat) : Below w.heap.size w (boxD w d l n c) := (Below.refl _ _).alloc (Nat.le_refl _) _
/-- an element of a row, by its place: its five cells, and its children -/
theorem FoAt.elem {S : Nat → Prop} {w : World} {dn ks rest : Fo} {k i b : Int} {t : Bs} {l : Option Addr} {n c : Nat} (h : FoAt S w (dn.app (.cons k i b t ks rest)) l n c) :
    ∃ bb off a n2 cap, l = some ⟨bb, off, none⟩ ∧ FoAt S w ks a n2 cap ∧ w.cell? ⟨bb, off + dn.len * 5, none⟩ = some (.int .i64 k) ∧ w.cell? ⟨bb, off + dn.len * 5 + 1, none⟩ = some (.int .i64 i) ∧ w.cell? ⟨bb, off + dn.len * 5 + 2, none⟩ = some (.int .u64 b) ∧
      w.cell? ⟨bb, off + dn.len * 5 + 3, none⟩ = some (.string ⟨t.toArray⟩) ∧ w.cell? ⟨bb, off + dn.len * 5 + 4, none⟩ = some (.slice a n2 cap) ∧ n ≤ 9223372036854775807 ∧ dn.len < n := by
  have hlen := h.len
  rw [Fo.len_app] at hlen
  have hlr : (Fo.cons k i b t ks rest).len = rest.len + 1 := rfl
  have hjn : dn.len < n := by omega
  obtain ⟨cs, ⟨hRd, hSx⟩, hAt⟩ := h
  have hHead := hRd.at (k := dn.len) hjn
  have hnb : n ≤ 9223372036854775807 := by have h1 := hRd.le; have h2 := hRd.max; unfold maxLen at h2; omega
  obtain ⟨cs1, cs2, rfl, hA1, hA2⟩ := At.split dn hAt
  have hl1 := At.len dn hA1
  obtain ⟨a2, n2, cap2, ks2, cs', rfl, hKid, hKidAt, _⟩ := hA2
  obtain ⟨bb2, off, rfl, hlt, hc⟩ := hHead
  have hcell : ∀ j, j < 5 → w.cell? ⟨bb2, off + dn.len * 5 + j, none⟩ = [Value.int .i64 k, .int .i64 i, .int .u64 b, .string ⟨t.toArray⟩, .slice a2 n2 cap2][j]? := fun j hj => by
    rw [hc j hj, List.getElem?_append_right (by omega), hl1, Nat.add_sub_cancel_left]
    match j, hj with
    | 0, _ => rfl
    | 1, _ => rfl
    | 2, _ => rfl
    | 3, _ => rfl
    | 4, _ => rfl
  exact ⟨bb2, off, a2, n2, cap2, rfl, ⟨ks2, hKid, hKidAt⟩, hcell 0 (by omega), hcell 1 (by omega), hcell 2 (by omega), hcell 3 (by omega), hcell 4 (by omega), hnb, hjn⟩
end Go.Proofs.YtofpdhkdnbnobaaGreatDoor
