/-
  When two values are the same (plain laws). Not a statement of the seat.
-/
import Derived.Test.YtbldidiibkcelaaGreatDoorLook
namespace Go.Proofs.YtbldidiibkcelaaGreatDoor
open Go.RowKit

def sameM : Fo → Fo → Bool
  | .nil, .nil => true
  | .cons k i b t kids rest, .cons k' i' b' t' kids' rest' => ((k == k' && (i == i' && (b == b' && (t == t' && kids.len == kids'.len)))) && sameM kids kids') && sameM rest rest'
  | _, _ => false
/-- the heads alone -/
def headM (k i b : Int) (t : Bs) (n : Nat) (k' i' b' : Int) (t' : Bs) (n' : Nat) : Bool := k == k' && (i == i' && (b == b' && (t == t' && n == n')))
theorem sameM_len : ∀ (f g : Fo), sameM f g = true → f.len = g.len
  | .nil, .nil, _ => rfl
  | .cons _ _ _ _ _ r, .cons _ _ _ _ _ r', h => by
    simp only [sameM, Bool.and_eq_true] at h
    simp only [Fo.len, sameM_len r r' h.2]
  | .nil, .cons _ _ _ _ _ _, h => by simp [sameM] at h
  | .cons _ _ _ _ _ _, .nil, h => by simp [sameM] at h
/-- the same means equal -/
theorem sameM_eq : ∀ (f g : Fo), sameM f g = true ↔ f = g
  | .nil, .nil => by simp [sameM]
  | .cons k i b t ks r, .cons k' i' b' t' ks' r' => by
    simp only [sameM, Bool.and_eq_true, beq_iff_eq, sameM_eq ks ks', sameM_eq r r', Fo.cons.injEq]
    constructor
    · rintro ⟨⟨⟨h1, h2, h3, h4, h5⟩, h6⟩, h7⟩; exact ⟨h1, h2, h3, h4, h6, h7⟩
    · rintro ⟨h1, h2, h3, h4, h6, h7⟩; exact ⟨⟨⟨h1, h2, h3, h4, by rw [h6]⟩, h6⟩, h7⟩
  | .nil, .cons _ _ _ _ _ _ => by simp [sameM]
  | .cons _ _ _ _ _ _, .nil => by simp [sameM]
/-- an element of a row, by its place: its five cells, and its children -/
theorem FoAt.elem {S : Nat → Prop} {w : World} {dn ks rest : Fo} {k i b : Int} {t : Bs} {l : Option Addr} {n c : Nat} (h : FoAt S w (dn.app (.cons k i b t ks rest)) l n c) :
    ∃ bb off a n2 cap, l = some ⟨bb, off, none⟩ ∧ FoAt S w ks a n2 cap ∧ w.cell? ⟨bb, off + dn.len * 5, none⟩ = some (.int .i64 k) ∧ w.cell? ⟨bb, off + dn.len * 5 + 1, none⟩ = some (.int .i64 i) ∧ w.cell? ⟨bb, off + dn.len * 5 + 2, none⟩ = some (.int .u64 b) ∧
      w.cell? ⟨bb, off + dn.len * 5 + 3, none⟩ = some (.string ⟨t.toArray⟩) ∧ w.cell? ⟨bb, off + dn.len * 5 + 4, none⟩ = some (.slice a n2 cap) ∧ n ≤ 9223372036854775807 ∧ dn.len < n := by
  have hlen := h.len
  rw [Fo.len_app] at hlen
  have hlr : (Fo.cons k i b t ks rest).len = rest.len + 1 := rfl
  have hjn : dn.len < n := by omega
  obtain ⟨cs, ⟨hRd, hSx⟩, hAt⟩ := h
  have hHead := hRd.at (k := dn.len) hjn
  have hnb : n ≤ 9223372036854775807 := by have h1 := hRd.le; have h2 := hRd.max; unfold maxLen at h2; omega
  obtain ⟨cs1, cs2, rfl, hA1, hA2⟩ := At.split dn hAt
  have hl1 := At.len dn hA1
  obtain ⟨a2, n2, cap2, ks2, cs', rfl, hKid, hKidAt, _⟩ := hA2
  obtain ⟨bb2, off, rfl, hlt, hc⟩ := hHead
  have hcell : ∀ j, j < 5 → w.cell? ⟨bb2, off + dn.len * 5 + j, none⟩ = [Value.int .i64 k, .int .i64 i, .int .u64 b, .string ⟨t.toArray⟩, .slice a2 n2 cap2][j]? := fun j hj => by
    rw [hc j hj, List.getElem?_append_right (by omega), hl1, Nat.add_sub_cancel_left]
    match j, hj with
    | 0, _ => rfl
    | 1, _ => rfl
    | 2, _ => rfl
    | 3, _ => rfl
    | 4, _ => rfl
  exact ⟨bb2, off, a2, n2, cap2, rfl, ⟨ks2, hKid, hKidAt⟩, hcell 0 (by omega), hcell 1 (by omega), hcell 2 (by omega), hcell 3 (by omega), hcell 4 (by omega), hnb, hjn⟩
end Go.Proofs.YtbldidiibkcelaaGreatDoor
