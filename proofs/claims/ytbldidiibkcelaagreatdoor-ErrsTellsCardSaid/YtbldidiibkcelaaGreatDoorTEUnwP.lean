/-
  What a right error lacks, its sizes, what it unwraps to (plain). Not a statement of the seat.
-/
import Derived.Test.YtbldidiibkcelaaGreatDoorTEClone
import Derived.Test.YtbldidiibkcelaaGreatDoorTHeldL
import Derived.Test.YtbldidiibkcelaaGreatDoorTERValid
import Derived.Test.YtbldidiibkcelaaGreatDoorTEIs16
namespace Go.Proofs.YtbldidiibkcelaaGreatDoor
open Go.RowKit

theorem zeroB_eq {b : Dt} (h : zeroB b = true) : b = Dt.zero := by
  obtain ⟨k, i, x, t, l⟩ := b
  unfold zeroB headM at h
  simp only [Bool.and_eq_true, beq_iff_eq] at h
  obtain ⟨⟨rfl, rfl, rfl, rfl, _⟩, h2⟩ := h
  cases l with
  | nil => rfl
  | cons k i b t kids rest => simp [sameM] at h2
theorem fit_body {k i c : Int} {t : Bs} {b : Dt} {cn n : Nat} (h : fitsE k i c t b cn n = true) (hk : k ≠ 5) : b = Dt.zero := by
  have hn := (fit_num h).1
  unfold fitsE at h
  simp only [Bool.and_eq_true] at h
  have h4 := h.2.2
  unfold fitC at h4
  have hf : (fldM k).body = false := by
    unfold fldM
    (repeat' split) <;> first | rfl | omega
  rw [hf] at h4
  exact zeroB_eq h4
theorem fit_plain {k i c : Int} {t : Bs} {b : Dt} {cn n : Nat} (h : fitsE k i c t b cn n = true) (hk : k = 1 ∨ k = 10) : i = 0 ∧ cn = 0 ∧ n = 0 := by
  unfold fitsE at h
  simp only [Bool.and_eq_true] at h
  obtain ⟨⟨_, h2⟩, h3, _⟩ := h
  rcases hk with rfl | rfl
  · simp [fitA, fitB, fldM] at h2 h3; omega
  · simp [fitA, fitB, fldM] at h2 h3; omega
theorem fit_six {i c : Int} {t : Bs} {b : Dt} {cn n : Nat} (h : fitsE 6 i c t b cn n = true) : i = 0 ∧ c = 0 ∧ t = [] ∧ n = 0 := by
  unfold fitsE at h
  simp only [Bool.and_eq_true] at h
  obtain ⟨⟨_, h2⟩, h3, _⟩ := h
  simp [fitA, fitB, fldM] at h2 h3
  exact ⟨h2.2.1, h2.2.2.1, h2.2.2.2.1, h3⟩
theorem fit_none {k i c : Int} {t : Bs} {b : Dt} {cn n : Nat} (h : fitsE k i c t b cn n = true) (hk : k = 0 ∨ k = 7) : i = 0 ∧ c = 0 ∧ t = [] ∧ cn = 0 ∧ n = 0 := by
  unfold fitsE at h
  simp only [Bool.and_eq_true] at h
  obtain ⟨⟨_, h2⟩, h3, _⟩ := h
  rcases hk with rfl | rfl
  · simp [fitA, fitB, fldM] at h2 h3
    exact ⟨h2.2.1, h2.2.2.1, h2.2.2.2.1, h2.2.2.2.2.2, h3⟩
  · simp [fitA, fitB, fldM] at h2 h3
    exact ⟨h2.2.1, h2.2.2.1, h2.2.2.2.1, h2.2.2.2.2.2, h3⟩
theorem rwt_cs (k : Int) (b : Dt) (cs : List Int) : cs.length ≤ rwtE k b cs := by unfold rwtE; omega
theorem len_esz : ∀ f : Eo, f.len ≤ esz f
  | .nil => Nat.le_refl _
  | .cons _ _ _ _ _ _ _ r => by have := len_esz r; simp only [Eo.len, esz]; omega
theorem body_sz {k i c : Int} {t : Bs} {b : Dt} {cn n : Nat} (h : fitsE k i c t b cn n = true) : sizeF b.l ≤ 100000 := by
  by_cases hk : k = 5
  · exact ((fit_num h).2.2.1 hk).2.2
  · rw [fit_body h hk]; simp [Dt.zero, sizeF]
theorem okC_of : ∀ (f : Eo) (m : Bool), rrightL m f = true → rewF f ≤ 100000 → esz f ≤ 100000 → okC f
  | .nil, _, _, _, _ => trivial
  | .cons k i c t b cs kids rest, m, h, hw, hz => by
    rw [rrightL] at h
    simp only [Bool.and_eq_true] at h
    obtain ⟨⟨_, h1, h2⟩, h3⟩ := h
    simp only [rewF, esz] at hw hz
    have h4 := rwt_cs k b cs
    have h5 := len_esz kids
    exact ⟨body_sz h1, by omega, by omega, okC_of kids _ h2 (by omega) (by omega), okC_of rest _ h3 (by omega) (by omega)⟩
/-- sizes of an error that a copy minds -/
def okS (e : Et) : Prop := sizeF e.b.l ≤ 100000 ∧ e.cs.length ≤ 100000 ∧ e.l.len ≤ 100000 ∧ okC e.l
theorem okE.okS {e : Et} (h : okE e) : okS e := by
  obtain ⟨h1, _, h3, h4⟩ := h
  unfold rright1 at h3
  rw [Bool.and_eq_true] at h3
  have h5 := rwt_cs e.k e.b e.cs
  have h6 := len_esz e.l
  exact ⟨body_sz h3.1, by omega, by omega, okC_of e.l _ h3.2 (by omega) (by omega)⟩
/-- what an error unwraps to -/
def unwE (e : Et) : Et := if e.k = 3 ∨ e.k = 8 then (match e.l with | .nil => Et.zero | .cons k i c t b cs ks _ => ⟨k, i, c, t, b, cs, ks⟩) else Et.zero
def rightE (e : Et) : Bool := rright1 e.k e.i e.c e.t e.b e.cs e.l
theorem rightE_zero : rightE Et.zero = true := by decide
theorem okE_zero : okE Et.zero := ⟨by decide, by decide, rightE_zero, by decide⟩
theorem okS_zero : okS Et.zero := okE_zero.okS
theorem right_head {k i c : Int} {t : Bs} {b : Dt} {cs : List Int} {ks r : Eo} {m : Bool} (h : rrightL m (.cons k i c t b cs ks r) = true) : rright1 k i c t b cs ks = true := by
  rw [rrightL] at h
  simp only [Bool.and_eq_true] at h
  unfold rright1
  rw [h.1.2.1, h.1.2.2]; rfl
theorem unwE_right {e : Et} (h : rightE e = true) : rightE (unwE e) = true := by
  obtain ⟨k, i, c, t, b, cs, l⟩ := e
  unfold unwE
  dsimp only
  split
  · cases l with
    | nil => exact rightE_zero
    | cons k2 i2 c2 t2 b2 cs2 ks r =>
      unfold rightE rright1 at h
      rw [Bool.and_eq_true] at h
      exact right_head h.2
  · exact rightE_zero
theorem unwE_okS {e : Et} (h : okS e) : okS (unwE e) := by
  obtain ⟨k, i, c, t, b, cs, l⟩ := e
  unfold unwE
  dsimp only
  split
  · cases l with
    | nil => exact okS_zero
    | cons k2 i2 c2 t2 b2 cs2 ks r =>
      have h4 := h.2.2.2
      exact ⟨h4.1, h4.2.1, h4.2.2.1, h4.2.2.2.1⟩
  · exact okS_zero
theorem right_zero {e : Et} (h : rightE e = true) (hk : e.k = 0) : e = Et.zero := by
  obtain ⟨k, i, c, t, b, cs, l⟩ := e
  dsimp only at hk
  subst hk
  unfold rightE rright1 at h
  rw [Bool.and_eq_true] at h
  obtain ⟨rfl, rfl, rfl, h4, h5⟩ := fit_none h.1 (.inl rfl)
  obtain rfl := fit_body h.1 (show (0 : Int) ≠ 5 by decide)
  obtain rfl := List.length_eq_zero_iff.1 h4
  obtain rfl := len0 h5
  rfl
end Go.Proofs.YtbldidiibkcelaaGreatDoor

