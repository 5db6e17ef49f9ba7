/-
  The walk through an error of many (walk). Not a statement of the seat.
-/
import Derived.Test.YtbldidiibkcelaaGreatDoorTEWalk6
namespace Go.Proofs.YtbldidiibkcelaaGreatDoor
open Go.RowKit

theorem m103u (v : Value) (w : World) : (method 389 103 v "Unwrap").run Tryz.prog w = .ok (153, v) w := by kernel_rfl
theorem rrightL_app (m : Bool) : ∀ (f : Eo) {g : Eo}, rrightL m (f.app g) = true → rrightL m g = true
  | .nil, _, h => h
  | .cons _ _ _ _ _ _ _ r, _, h => by
    rw [Eo.app, rrightL, Bool.and_eq_true] at h
    exact rrightL_app m r h.2
theorem ehi_app : ∀ (f : Eo) {g : Eo}, ehi g ≤ ehi (f.app g)
  | .nil, _ => Nat.le_refl _
  | .cons _ _ _ _ _ _ _ r, g => by
    have := ehi_app r (g := g)
    simp only [Eo.app, ehi]
    omega
end Go.Proofs.YtbldidiibkcelaaGreatDoor

/-
  The walk through any error value. Not a statement of the seat.
-/
namespace Go.Proofs.YtbldidiibkcelaaGreatDoor
open Go.RowKit

theorem len0 {f : Eo} (h : f.len = 0) : f = .nil := by
  cases f with
  | nil => rfl
  | cons k i c t b cs ks r => rw [Eo.len] at h; omega
theorem len1 {f : Eo} (h : f.len = 1) : ∃ k i c t b cs ks, f = .cons k i c t b cs ks .nil := by
  cases f with
  | nil => rw [Eo.len] at h; omega
  | cons k i c t b cs ks r =>
    rw [Eo.len] at h
    obtain rfl := len0 (show r.len = 0 by omega)
    exact ⟨k, i, c, t, b, cs, ks, rfl⟩
theorem fit_num {k i c : Int} {t : Bs} {b : Dt} {cn n : Nat} (h : fitsE k i c t b cn n = true) : (0 ≤ k ∧ k ≤ 10) ∧ ((fldM k).least ≤ (n : Int) ∧ (n : Int) ≤ (fldM k).most) ∧ (k = 5 → okB b) ∧ (k = 7 → i = 0) := by
  unfold fitsE at h
  simp only [Bool.and_eq_true] at h
  obtain ⟨⟨h1, h2⟩, h3, h4⟩ := h
  refine ⟨by unfold fldOk at h1; simpa using h1, ?_, fun e => ?_, fun e => ?_⟩
  · unfold fitB at h3
    simp only [Bool.and_eq_true, decide_eq_true_eq] at h3
    omega
  · subst e
    exact okB_of h4
  · subst e
    unfold fitA at h2
    simp [fldM] at h2
    omega
end Go.Proofs.YtbldidiibkcelaaGreatDoor

/-
  Is's outer closure at any error (walk). Not a statement of the seat.
-/
namespace Go.Proofs.YtbldidiibkcelaaGreatDoor
open Go.RowKit

/-- the target of Is, ahead of the found one's cell -/
def TG0 (a0 : Addr) (S : Nat → Prop) (tb tt : Nat) (T : Et) (w : World) : Prop :=
  (∃ bl' bn' bc' cl' cn' cc' l' n' cap' q' p', FoAt S w T.b.l bl' bn' bc' ∧ Blk w tb (V11 T.k T.i T.c T.t T.b bl' bn' bc' cl' cn' cc' l' n' cap') ∧ Blk w tt [vErr T.k T.c T.t cl' cn' cc' q' p']) ∧
    LB a0 w ∧ 0 < w.heap.size ∧ (T.k = 5 → okB T.b) ∧ (1 ≤ T.k ∧ T.k ≤ 10) ∧ (∀ x, S x → x < w.heap.size)
theorem TG0.below {a0 : Addr} {S : Nat → Prop} {tb tt : Nat} {T : Et} {w w' : World} (h : TG0 a0 S tb tt T w) (hB : Below w.heap.size w w') : TG0 a0 S tb tt T w' := by
  obtain ⟨⟨bl', bn', bc', cl', cn', cc', l', n', cap', q', p', h1, h2, h3⟩, h4, h5, h7, h8, h9⟩ := h
  exact ⟨⟨bl', bn', bc', cl', cn', cc', l', n', cap', q', p', h1.same (fun x _ hl => hB.block x hl) (fun x hx _ => hx), h2.below hB, h3.below hB⟩, h4.below hB, Nat.lt_of_lt_of_le h5 hB.size, h7, h8, fun x hx => Nat.lt_of_lt_of_le (h9 x hx) hB.size⟩
theorem TG0.tg {a0 : Addr} {S : Nat → Prop} {tb tt : Nat} {T : Et} {w : World} (h : TG0 a0 S tb tt T w) : TG a0 S w.heap.size tb tt T w := by
  obtain ⟨⟨bl', bn', bc', cl', cn', cc', l', n', cap', q', p', h1, h2, h3⟩, h4, h5, h7, h8, h9⟩ := h
  exact ⟨⟨bl', bn', bc', cl', cn', cc', l', n', cap', q', p', h1, h2, h3⟩, h4, h5, ⟨by have := h2.1; omega, by have := h3.1; omega, by omega⟩, h7, h8, fun x hx => ⟨h9 x hx, by have := h9 x hx; omega⟩⟩
end Go.Proofs.YtbldidiibkcelaaGreatDoor

