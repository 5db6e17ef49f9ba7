/-
  Which values are valid: by size and height (plain laws). Not a statement of the seat.
-/
import Derived.Test.YtbldidiibkcelaaGreatDoorRight
namespace Go.Proofs.YtbldidiibkcelaaGreatDoor

def sizeF : Fo → Nat
  | .nil => 0
  | .cons _ _ _ _ kids rest => 1 + sizeF kids + sizeF rest
def hiF : Fo → Nat
  | .nil => 0
  | .cons _ _ _ _ kids rest => max (hiF kids + 1) (hiF rest)

theorem look_ok : ∀ (f : Fo) (deep p m : Nat), p + sizeF f ≤ 4096 → deep + hiF f ≤ 17 → rightM f = true → deep ≤ m + 1 → lookM f deep p m = (true, p + sizeF f, max m (deep + hiF f - 1))
  | .nil, deep, p, m, h1, h2, h3, h4 => by
    rw [lookM]
    simp only [sizeF, hiF, Nat.add_zero]
    rw [show max m (deep - 1) = m by omega]
  | .cons k i b t kids rest, deep, p, m, h1, h2, h3, h4 => by
    simp only [sizeF, hiF] at h1 h2 ⊢
    simp only [rightM, Bool.and_eq_true] at h3
    rw [lookM, if_neg (by rw [h3.1.1]; simp; omega), look_ok kids (deep + 1) (p + 1) (max m deep) (by omega) (by omega) h3.1.2 (by omega)]
    show lookM rest deep _ _ = _
    rw [look_ok rest deep _ _ (by omega) (by omega) h3.2 (by omega)]
    congr 2
    · omega
    · omega
theorem look_bad : ∀ (f : Fo) (deep p m : Nat), p ≤ 4096 → deep ≤ 17 → deep ≤ m + 1 → ¬ (p + sizeF f ≤ 4096 ∧ deep + hiF f ≤ 17 ∧ rightM f = true) → (lookM f deep p m).1 = false
  | .nil, deep, p, m, h1, h2, _, h => absurd ⟨by simpa [sizeF] using h1, by simpa [hiF] using h2, rfl⟩ h
  | .cons k i b t kids rest, deep, p, m, h1, h2, h4, h => by
    rw [lookM]
    split
    · rfl
    · rename_i hc
      have hft : fitsM k i b t kids.len = true := by
        cases hf : fitsM k i b t kids.len
        · exact absurd (.inr (.inr hf)) hc
        · rfl
      by_cases hk : (p + 1) + sizeF kids ≤ 4096 ∧ (deep + 1) + hiF kids ≤ 17 ∧ rightM kids = true
      · rw [look_ok kids (deep + 1) (p + 1) (max m deep) hk.1 hk.2.1 hk.2.2 (by omega)]
        show (lookM rest deep _ _).1 = false
        refine look_bad rest deep _ _ (by omega) h2 (by omega) (fun hr => h ?_)
        simp only [sizeF, hiF, rightM, hft, hk.2.2, hr.2.2, Bool.and_self, and_true]
        omega
      · have := look_bad kids (deep + 1) (p + 1) (max m deep) (by omega) (by omega) (by omega) hk
        rcases hl : lookM kids (deep + 1) (p + 1) (max m deep) with ⟨r, p', m'⟩
        rw [hl] at this
        cases r
        · rfl
        · cases this

theorem cnt_ok : ∀ (f : Fo) (deep left n most : Nat), n + sizeF f ≤ left → deep + hiF f ≤ 16 → deep ≤ most → most ≤ 16 → cntL f deep left n most = (n + sizeF f, max most (deep + hiF f))
  | .nil, deep, left, n, most, h1, h2, h3, h4 => by
    rw [cntL]
    simp only [sizeF, hiF, Nat.add_zero]
    rw [show max most deep = most by omega]
  | .cons k i b t kids rest, deep, left, n, most, h1, h2, h3, h4 => by
    simp only [sizeF, hiF] at h1 h2 ⊢
    have hr : cntM kids (deep + 1) (left - n) = (1 + sizeF kids, deep + 1 + hiF kids) := by
      unfold cntM
      rw [if_neg (by omega), cnt_ok kids (deep + 1) (left - n) 1 (deep + 1) (by omega) (by omega) (Nat.le_refl _) (by omega)]
      congr 1
      omega
    rw [cntL_cons, hr]
    rw [if_neg (by show ¬ (left < n + (1 + sizeF kids) ∨ 16 < max most (deep + 1 + hiF kids)); omega)]
    rw [cnt_ok rest deep left _ _ (by show n + (1 + sizeF kids) + _ ≤ _; omega) (by omega) (by show deep ≤ max most (deep + 1 + hiF kids); omega) (by show max most (deep + 1 + hiF kids) ≤ 16; omega)]
    show (n + (1 + sizeF kids) + sizeF rest, max (max most (deep + 1 + hiF kids)) (deep + hiF rest)) = _
    congr 1
    · omega
    · omega
theorem cnt_bad : ∀ (f : Fo) (deep left n most : Nat), n ≤ left → left ≤ 4096 → deep ≤ most → most ≤ 16 → ¬ (n + sizeF f ≤ left ∧ deep + hiF f ≤ 16) → (cntL f deep left n most).1 = 4097
  | .nil, deep, left, n, most, h1, _, h3, h4, h => absurd ⟨by simpa [sizeF] using h1, by simp [hiF]; omega⟩ h
  | .cons k i b t kids rest, deep, left, n, most, h1, h2, h3, h4, h => by
    rw [cntL_cons]
    by_cases hc : 16 < deep + 1 ∨ left - n = 0
    · have hr : cntM kids (deep + 1) (left - n) = (4097, deep + 1) := by unfold cntM; rw [if_pos hc]
      rw [hr, if_pos (by left; show left < n + 4097; omega)]
    · by_cases hk : 1 + sizeF kids ≤ left - n ∧ deep + 1 + hiF kids ≤ 16
      · have hr : cntM kids (deep + 1) (left - n) = (1 + sizeF kids, max (deep + 1) (deep + 1 + hiF kids)) := by
          unfold cntM
          rw [if_neg hc, cnt_ok kids (deep + 1) (left - n) 1 (deep + 1) hk.1 hk.2 (Nat.le_refl _) (by omega)]
        rw [hr]
        split
        · rfl
        · refine cnt_bad rest deep left _ _ (by show n + (1 + sizeF kids) ≤ left; omega) h2 (by show deep ≤ max most _; omega) (by show max most (max (deep + 1) (deep + 1 + hiF kids)) ≤ 16; omega) (fun hh => h ?_)
          replace hh : n + (1 + sizeF kids) + sizeF rest ≤ left ∧ deep + hiF rest ≤ 16 := hh
          simp only [sizeF, hiF]
          omega
      · have hr : (cntM kids (deep + 1) (left - n)).1 = 4097 := by
          unfold cntM
          rw [if_neg hc]
          exact cnt_bad kids (deep + 1) (left - n) 1 (deep + 1) (by omega) (by omega) (Nat.le_refl _) (by omega) hk
        rw [hr, if_pos (by left; omega)]

/-- the document's Valid -/
def rvalidM (d : Dt) : Bool := decide ((cntM d.l 1 4096).1 ≤ 4096) && (decide ((cntM d.l 1 4096).2 ≤ 16) && (fitsM d.k d.i d.b d.t d.l.len && rightM d.l))
def okD (d : Dt) : Prop := 1 + sizeF d.l ≤ 4096 ∧ 1 + hiF d.l ≤ 16 ∧ rightM d.fo = true
theorem right_fo (d : Dt) : rightM d.fo = (fitsM d.k d.i d.b d.t d.l.len && rightM d.l) := by simp [Dt.fo, rightM]
theorem valid_ok {d : Dt} (h : okD d) : validD d = true ∧ rvalidM d = true ∧ (lookM d.fo 1 0 0).2.1 = (cntM d.l 1 4096).1 ∧ (lookM d.fo 1 0 0).2.2 = (cntM d.l 1 4096).2 := by
  obtain ⟨h1, h2, h3⟩ := h
  have hs : sizeF d.fo = 1 + sizeF d.l := by simp [Dt.fo, sizeF]
  have hh : hiF d.fo = hiF d.l + 1 := by simp [Dt.fo, hiF]
  have hl := look_ok d.fo 1 0 0 (by omega) (by omega) h3 (by omega)
  have hc : cntM d.l 1 4096 = (1 + sizeF d.l, max 1 (1 + hiF d.l)) := by
    unfold cntM
    rw [if_neg (by omega), cnt_ok d.l 1 4096 1 1 h1 h2 (Nat.le_refl _) (by omega)]
  refine ⟨by unfold validD; rw [hl], ?_, ?_, ?_⟩
  · unfold rvalidM
    rw [hc, ← right_fo, h3]
    simp
    omega
  · rw [hl, hc]; show 0 + sizeF d.fo = 1 + sizeF d.l; omega
  · rw [hl, hc]; show max 0 (1 + hiF d.fo - 1) = max 1 (1 + hiF d.l); omega
theorem valid_bad {d : Dt} (h : ¬ okD d) : validD d = false ∧ rvalidM d = false := by
  have hs : sizeF d.fo = 1 + sizeF d.l := by simp [Dt.fo, sizeF]
  have hh : hiF d.fo = hiF d.l + 1 := by simp [Dt.fo, hiF]
  constructor
  · unfold validD
    refine look_bad d.fo 1 0 0 (by omega) (by omega) (by omega) (fun hx => h ⟨by omega, by omega, hx.2.2⟩)
  · unfold rvalidM
    by_cases hc : 1 + sizeF d.l ≤ 4096 ∧ 1 + hiF d.l ≤ 16
    · have hr : rightM d.fo = false := by
        cases hr : rightM d.fo
        · rfl
        · exact absurd ⟨hc.1, hc.2, hr⟩ h
      rw [right_fo] at hr
      rw [hr]
      simp
    · have : (cntM d.l 1 4096).1 = 4097 := by
        unfold cntM
        rw [if_neg (by omega)]
        exact cnt_bad d.l 1 4096 1 1 (by omega) (by omega) (Nat.le_refl _) (by omega) hc
      rw [this]
      rfl
theorem valid_eq (d : Dt) : validD d = rvalidM d := by
  by_cases h : okD d
  · rw [(valid_ok h).1, (valid_ok h).2.1]
  · rw [(valid_bad h).1, (valid_bad h).2]
theorem parts_eq {d : Dt} (h : rvalidM d = true) : (lookM d.fo 1 0 0).2.1 = (cntM d.l 1 4096).1 ∧ (lookM d.fo 1 0 0).2.2 = (cntM d.l 1 4096).2 := by
  by_cases hk : okD d
  · exact (valid_ok hk).2.2
  · rw [(valid_bad hk).2] at h; cases h
end Go.Proofs.YtbldidiibkcelaaGreatDoor
