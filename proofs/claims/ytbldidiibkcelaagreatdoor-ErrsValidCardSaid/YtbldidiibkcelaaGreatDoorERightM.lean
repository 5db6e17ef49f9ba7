/-
  What is right of an error (plain). Not a statement of the seat.
-/
import Derived.Test.YtbldidiibkcelaaGreatDoorEWeight
import Derived.Test.YtbldidiibkcelaaGreatDoorEValid
namespace Go.Proofs.YtbldidiibkcelaaGreatDoor
open Go.RowKit

/-- a row is right; many: what wraps it is of that kind -/
def rrightL : Bool → Eo → Bool
  | _, .nil => true
  | many, .cons k i c t b cs kids rest => (!(!many && k == 0) && (fitsE k i c t b cs.length kids.len && rrightL (k == 4) kids)) && rrightL many rest
/-- .. one error -/
def rright1 (k i c : Int) (t : Bs) (b : Dt) (cs : List Int) (kids : Eo) : Bool := fitsE k i c t b cs.length kids.len && rrightL (k == 4) kids
theorem fitC_r (f : Fl) (b : Dt) : fitC f b = (if f.body then rvalidM b else zeroB b) := by unfold fitC; rw [valid_eq]

def esz : Eo → Nat
  | .nil => 0
  | .cons _ _ _ _ _ _ kids rest => 1 + esz kids + esz rest
def ehi : Eo → Nat
  | .nil => 0
  | .cons _ _ _ _ _ _ kids rest => max (ehi kids + 1) (ehi rest)
def ewF : Eo → Nat
  | .nil => 0
  | .cons k _ _ _ b cs kids rest => wtE k b cs + ewF kids + ewF rest
def rewF : Eo → Nat
  | .nil => 0
  | .cons k _ _ _ b cs kids rest => rwtE k b cs + rewF kids + rewF rest

theorem fits_wt {k i c : Int} {t : Bs} {b : Dt} {cs : List Int} {cn n : Nat} (h : fitsE k i c t b cn n = true) : wtE k b cs = rwtE k b cs := by
  unfold wtE rwtE
  by_cases hk : k = 5
  · subst hk
    have hv : validD b = true := by
      unfold fitsE at h
      simp only [Bool.and_eq_true] at h
      have h2 := h.2.2
      exact h2
    rw [valid_eq] at hv
    have := (parts_eq hv).1
    unfold sizeD rsizeD
    rw [this]
  · rw [if_neg hk, if_neg hk]
theorem right_wt : ∀ (f : Eo) (m : Bool), rrightL m f = true → ewF f = rewF f
  | .nil, _, _ => rfl
  | .cons k i c t b cs kids rest, m, h => by
    rw [rrightL] at h
    simp only [Bool.and_eq_true] at h
    obtain ⟨⟨_, h1, h2⟩, h3⟩ := h
    rw [ewF, rewF, fits_wt h1, right_wt kids _ h2, right_wt rest _ h3]

theorem elook_ok : ∀ (f : Eo) (m : Bool) (deep p wt : Nat), p + esz f ≤ 4096 → deep + ehi f ≤ 17 → wt + ewF f ≤ 4096 → rrightL m f = true → elookM m f deep p wt = (true, p + esz f, wt + ewF f)
  | .nil, m, deep, p, wt, _, _, _, _ => by rw [elookM]; rfl
  | .cons k i c t b cs kids rest, m, deep, p, wt, h1, h2, h3, h4 => by
    simp only [esz, ehi, ewF] at h1 h2 h3 ⊢
    rw [rrightL] at h4
    simp only [Bool.and_eq_true] at h4
    obtain ⟨⟨h5, h6, h7⟩, h8⟩ := h4
    rw [elookM, if_neg, if_neg, elook_ok kids (k == 4) (deep + 1) (p + 1) (wt + wtE k b cs) (by omega) (by omega) (by omega) h7]
    · show (if wt + wtE k b cs + ewF kids ≤ 4096 then elookM m rest deep _ _ else _) = _
      rw [if_pos (by omega), elook_ok rest m deep _ _ (by omega) (by omega) (by omega) h8]
      congr 2
      · omega
      · omega
    · rintro (h | h | h)
      · omega
      · omega
      · rw [h6] at h; cases h
    · rintro ⟨rfl, rfl⟩
      revert h5; decide
theorem elook_inv : ∀ (f : Eo) (m : Bool) (deep p wt p' w' : Nat), p ≤ 4096 → deep ≤ 17 → elookM m f deep p wt = (true, p', w') → p + esz f ≤ 4096 ∧ deep + ehi f ≤ 17 ∧ rrightL m f = true ∧ w' = wt + ewF f ∧ p' = p + esz f
  | .nil, m, deep, p, wt, p', w', h1, h2, h => by
    rw [elookM] at h
    cases h
    exact ⟨h1, h2, rfl, rfl, rfl⟩
  | .cons k i c t b cs kids rest, m, deep, p, wt, p', w', h1, h2, h => by
    rw [elookM] at h
    split at h
    · cases h
    · rename_i hz
      split at h
      · cases h
      · rename_i hc
        split at h
        · rename_i p1 w1 h3
          split at h
          · rename_i hw
            obtain ⟨a1, a2, a3, a4, a5⟩ := elook_inv kids _ _ _ _ _ _ (by omega) (by omega) h3
            obtain ⟨b1, b2, b3, b4, b5⟩ := elook_inv rest _ _ _ _ _ _ (by omega) h2 h
            have hf : fitsE k i c t b cs.length kids.len = true := by
              cases hf : fitsE k i c t b cs.length kids.len
              · exact absurd (.inr (.inr hf)) hc
              · rfl
            simp only [esz, ehi, ewF]
            refine ⟨by omega, by omega, ?_, by omega, by omega⟩
            rw [rrightL, hf, a3, b3]
            cases m
            · have : (k == 0) = false := by
                cases hk : (k == 0)
                · rfl
                · exact absurd ⟨rfl, by simpa using hk⟩ hz
              rw [this]; rfl
            · rfl
          · cases h
        · cases h
theorem ecnt_ok : ∀ (f : Eo) (deep left n : Nat), n + esz f ≤ left → deep + ehi f ≤ 16 → ecntL f deep left n = n + esz f
  | .nil, _, _, _, _, _ => rfl
  | .cons k i c t b cs kids rest, deep, left, n, h1, h2 => by
    simp only [esz, ehi] at h1 h2 ⊢
    have hr : ecnt kids (deep + 1) (left - n) = 1 + esz kids := by
      unfold ecnt
      rw [if_neg (by omega), ecnt_ok kids (deep + 1) (left - n) 1 (by omega) (by omega)]
    rw [ecntL_cons, hr, if_neg (by omega), ecnt_ok rest deep left _ (by omega) (by omega)]
    omega
theorem ecnt_inv : ∀ (f : Eo) (deep left n : Nat), n ≤ left → left ≤ 4096 → deep ≤ 16 → ecntL f deep left n ≤ 4096 → n + esz f ≤ left ∧ deep + ehi f ≤ 16
  | .nil, _, _, _, h1, _, h2, _ => ⟨h1, h2⟩
  | .cons k i c t b cs kids rest, deep, left, n, h1, h2, h3, h => by
    rw [ecntL_cons] at h
    split at h
    · omega
    · rename_i hc
      have hk : ecnt kids (deep + 1) (left - n) ≤ 4096 := by omega
      unfold ecnt at hk
      split at hk
      · omega
      · rename_i hd
        have hk2 := ecnt_inv kids (deep + 1) (left - n) 1 (by omega) (by omega) (by omega) hk
        have hv : ecnt kids (deep + 1) (left - n) = 1 + esz kids := by unfold ecnt; rw [if_neg hd, ecnt_ok _ _ _ _ hk2.1 hk2.2]
        rw [hv] at h
        have hr := ecnt_inv rest deep left _ (by omega) h2 h3 h
        simp only [esz, ehi]
        omega
theorem ewt_ok : ∀ (f : Eo) (n : Nat), (n + rewF f ≤ 4096 → ewtL f n = n + rewF f) ∧ (4096 < n + rewF f → 4096 < ewtL f n)
  | .nil, n => ⟨fun _ => rfl, fun h => h⟩
  | .cons k i c t b cs kids rest, n => by
    have hk := ewt_ok kids (rwtE k b cs)
    rw [ewtL]
    simp only [rewF]
    by_cases hK : rwtE k b cs + rewF kids ≤ 4096
    · rw [hk.1 hK]
      have hr := ewt_ok rest (n + (rwtE k b cs + rewF kids))
      constructor
      · intro h
        rw [if_neg (by omega), hr.1 (by omega)]; omega
      · intro h
        split
        · omega
        · exact hr.2 (by omega)
    · have := hk.2 (by omega)
      exact ⟨fun h => by omega, fun _ => by rw [if_pos (by omega)]; omega⟩
/-- the document's Valid of an error -/
def ervalidM (e : Et) : Bool := decide (ecnt e.l 1 4096 ≤ 4096) && (rright1 e.k e.i e.c e.t e.b e.cs e.l && decide (ewtL e.l (rwtE e.k e.b e.cs) ≤ 4096))
def okE (e : Et) : Prop := 1 + esz e.l ≤ 4096 ∧ 1 + ehi e.l ≤ 16 ∧ rright1 e.k e.i e.c e.t e.b e.cs e.l = true ∧ rwtE e.k e.b e.cs + rewF e.l ≤ 4096
theorem evalid_ok (e : Et) : evalidM e = true ↔ okE e := by
  obtain ⟨k, i, c, t, b, cs, kids⟩ := e
  unfold evalidM okE elook1
  dsimp only
  constructor
  · intro h
    split at h
    · cases h
    · rename_i hc
      have hf : fitsE k i c t b cs.length kids.len = true := by
        cases hf : fitsE k i c t b cs.length kids.len
        · exact absurd (.inr (.inr hf)) hc
        · rfl
      rcases h3 : elookM (k == 4) kids (1 + 1) (0 + 1) (0 + wtE k b cs) with ⟨r, p1, w1⟩
      rw [h3] at h
      cases r
      · cases h
      · simp only [decide_eq_true_eq] at h
        obtain ⟨a1, a2, a3, a4, a5⟩ := elook_inv kids _ _ _ _ _ _ (by omega) (by omega) h3
        have hw := right_wt kids _ a3
        have hw1 := fits_wt (cs := cs) hf
        refine ⟨by omega, by omega, ?_, by omega⟩
        unfold rright1; rw [hf, a3]; rfl
  · rintro ⟨h1, h2, h3, h4⟩
    unfold rright1 at h3
    simp only [Bool.and_eq_true] at h3
    have hw := right_wt kids _ h3.2
    have hw1 := fits_wt (cs := cs) h3.1
    rw [if_neg, elook_ok kids (k == 4) (1 + 1) (0 + 1) (0 + wtE k b cs) (by omega) (by omega) (by omega) h3.2]
    · show decide _ = true
      rw [decide_eq_true_eq]; omega
    · rintro (h | h | h)
      · omega
      · omega
      · rw [h3.1] at h; cases h
theorem ervalid_ok (e : Et) : ervalidM e = true ↔ okE e := by
  obtain ⟨k, i, c, t, b, cs, kids⟩ := e
  unfold ervalidM okE
  dsimp only
  rw [Bool.and_eq_true, Bool.and_eq_true, decide_eq_true_eq, decide_eq_true_eq]
  constructor
  · rintro ⟨h1, h2, h3⟩
    unfold ecnt at h1
    rw [if_neg (by omega)] at h1
    have ha := ecnt_inv kids 1 4096 1 (by omega) (by omega) (by omega) h1
    refine ⟨ha.1, ha.2, h2, ?_⟩
    have := (ewt_ok kids (rwtE k b cs)).2
    omega
  · rintro ⟨h1, h2, h3, h4⟩
    refine ⟨?_, h3, ?_⟩
    · unfold ecnt
      rw [if_neg (by omega), ecnt_ok kids 1 4096 1 h1 h2]; exact h1
    · rw [(ewt_ok kids (rwtE k b cs)).1 h4]; exact h4
theorem evalid_eq (e : Et) : evalidM e = ervalidM e := by
  rw [Bool.eq_iff_iff, evalid_ok, ervalid_ok]
end Go.Proofs.YtbldidiibkcelaaGreatDoor
