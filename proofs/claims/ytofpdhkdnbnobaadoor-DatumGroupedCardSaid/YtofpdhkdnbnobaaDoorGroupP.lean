/-
  Groups, in plain Lean: equality is symmetric and transitive; the places of the firsts. Not a statement of the seat.
-/
import Derived.Test.YtofpdhkdnbnobaaDoorFloats
namespace Go.Proofs.YtofpdhkdnbnobaaDoor
open Go.RowKit

theorem eqOne_symm {k i b k' i' b' : Int} {t t' : Bs} {p q : Bool × Int} (h : p = q) : eqOne k i b t k' i' b' t' p = eqOne k' i' b' t' k i b t q := by
  subst h
  unfold eqOne
  by_cases e : k = k'
  · subst e
    have h1 : (i == i' && t == t') = (i' == i && t' == t) := by
      rw [Bool.eq_iff_iff]
      simp only [Bool.and_eq_true, beq_iff_eq]
      exact ⟨fun h => ⟨h.1.symm, h.2.symm⟩, fun h => ⟨h.1.symm, h.2.symm⟩⟩
    rw [feq_symm b b', h1]
  · rw [if_neg e, if_neg (fun x => e x.symm)]
theorem eqF_symm : ∀ f g : Fo, eqF f g = eqF g f
  | .nil, .nil => rfl
  | .nil, .cons _ _ _ _ _ _ => rfl
  | .cons _ _ _ _ _ _, .nil => rfl
  | .cons k i b t ks r, .cons k' i' b' t' ks' r' => by
    rw [eqF, eqF, eqOne_symm (eqF_symm ks ks'), eqF_symm r r']
theorem eqD_symm (d e : Dt) : eqD d e = eqD e d := eqOne_symm (eqF_symm _ _)

theorem eqOne_trans {k i b k' i' b' k2 i2 b2 : Int} {t t' t2 : Bs} {p q r : Bool × Int} (h : (eqOne k i b t k' i' b' t' p).1 = true) (g : (eqOne k' i' b' t' k2 i2 b2 t2 q).1 = true) (hr : k = 9 → k' = 9 → k2 = 9 → p.1 = true → q.1 = true → r.1 = true) :
    (eqOne k i b t k2 i2 b2 t2 r).1 = true := by
  unfold eqOne at h g ⊢
  by_cases e : k = k'
  · subst e
    by_cases e2 : k = k2
    · subst e2
      simp only [if_true] at h g ⊢
      by_cases h7 : k = 7
      · simp [h7] at h
      by_cases h8 : k = 8
      · simp [h8] at h
      by_cases h3 : k = 3
      · simp [h3] at h g ⊢
        exact feq_trans h g
      by_cases h9 : k = 9
      · simp only [if_neg h7, if_neg h8, if_neg h3, if_pos h9] at h g ⊢
        exact hr h9 h9 h9 h g
      · simp only [if_neg h7, if_neg h8, if_neg h3, if_neg h9] at h g ⊢
        simp only [Bool.and_eq_true, beq_iff_eq] at h g ⊢
        exact ⟨h.1.trans g.1, h.2.trans g.2⟩
    · rw [if_neg e2] at g; simp at g
  · rw [if_neg e] at h; simp at h
theorem eqF_trans : ∀ f g h : Fo, f.len = g.len → g.len = h.len → shapeF f → shapeF g → shapeF h → (eqF f g).1 = true → (eqF g h).1 = true → (eqF f h).1 = true
  | .nil, _, _, _, _, _, _, _, _, _ => by rw [eqF]; simp
  | .cons _ _ _ _ _ _, .nil, _, e, _, _, _, _, _, _ => by simp [Fo.len] at e
  | .cons _ _ _ _ _ _, .cons _ _ _ _ _ _, .nil, _, e, _, _, _, _, _ => by simp [Fo.len] at e
  | .cons k i b t ks r, .cons k' i' b' t' ks' r', .cons k2 i2 b2 t2 ks2 r2, e, e', hf, hg, hh, h, g => by
    simp only [eqF] at h g ⊢
    have h1 : (eqOne k i b t k' i' b' t' (eqF ks ks')).1 = true := by
      by_cases c : (eqOne k i b t k' i' b' t' (eqF ks ks')).1 = true
      · exact c
      · rw [if_neg c] at h; exact h
    have g1 : (eqOne k' i' b' t' k2 i2 b2 t2 (eqF ks' ks2)).1 = true := by
      by_cases c : (eqOne k' i' b' t' k2 i2 b2 t2 (eqF ks' ks2)).1 = true
      · exact c
      · rw [if_neg c] at g; exact g
    rw [if_pos h1] at h
    rw [if_pos g1] at g
    have hx := eqOne_trans (r := eqF ks ks2) h1 g1 (fun h9 h9' h92 a c => eqF_trans ks ks' ks2 (by rw [hf.1.1 h9, hg.1.1 h9']) (by rw [hg.1.1 h9', hh.1.1 h92]) hf.2.1 hg.2.1 hh.2.1 a c)
    rw [if_pos hx]
    exact eqF_trans r r' r2 (by simpa [Fo.len] using e) (by simpa [Fo.len] using e') hf.2.2 hg.2.2 hh.2.2 h g

/-- a pair has two parts, all through -/
def shapeD (d : Dt) : Prop := (d.k = 9 → d.l.len = 2) ∧ shapeF d.l
theorem eqD_trans {c d e : Dt} (hc : shapeD c) (hd : shapeD d) (he : shapeD e) (h : (eqD c d).1 = true) (g : (eqD d e).1 = true) : (eqD c e).1 = true :=
  eqOne_trans h g (fun h9 h9' h92 a b => eqF_trans _ _ _ (by rw [hc.1 h9, hd.1 h9']) (by rw [hd.1 h9', he.1 h92]) hc.2 hd.2 he.2 a b)

/-- can a value be a key? -/
def keyOne (k : Int) (p : Bool) : Bool := if k = 9 then p else k != 7 && k != 8
def keyF : Fo → Bool
  | .nil => true
  | .cons k _ _ _ ks r => keyOne k (keyF ks) && keyF r
def keyD (d : Dt) : Bool := keyOne d.k (keyF d.l)
theorem eqOne_key {k i b k' i' b' : Int} {t t' : Bs} {p : Bool × Int} {x y : Bool} (h : keyOne k x = true) (hp : k = 9 → k' = 9 → x = true → y = true → p.2 = 0) (g : keyOne k' y = true) : (eqOne k i b t k' i' b' t' p).2 = 0 := by
  unfold eqOne
  unfold keyOne at h g
  by_cases e : k = k'
  · subst e
    by_cases h9 : k = 9
    · simp only [if_pos h9] at h g
      simp only [if_true, if_neg (show k ≠ 7 by omega), if_neg (show k ≠ 8 by omega), if_neg (show k ≠ 3 by omega), if_pos h9]
      exact hp h9 h9 h g
    · simp only [if_neg h9, Bool.and_eq_true, bne_iff_ne] at h
      simp only [if_true, if_neg h.1, if_neg h.2, if_neg h9]
      split <;> rfl
  · rw [if_neg e]
theorem eqF_key : ∀ f g : Fo, keyF f = true → keyF g = true → (eqF f g).2 = 0
  | .nil, g, _, _ => by cases g <;> rfl
  | .cons _ _ _ _ _ _, .nil, _, _ => rfl
  | .cons k i b t ks r, .cons k' i' b' t' ks' r', h, g => by
    simp only [keyF, Bool.and_eq_true] at h g
    simp only [eqF]
    split
    · exact eqF_key r r' h.2 g.2
    · exact eqOne_key h.1 (fun _ _ a c => eqF_key ks ks' a c) g.1
theorem eqD_key {d e : Dt} (h : keyD d = true) (g : keyD e = true) : (eqD d e).2 = 0 := eqOne_key h (fun _ _ a c => eqF_key _ _ a c) g

/-! ### the places of the firsts -/
/-- the first, of n, that is equal -/
def firstN (l : List Dt) (n : Nat) (d : Dt) : Option Nat := (List.range n).find? fun j => (eqD (l.getD j Dt.zero) d).1
/-- its group's place -/
def gAt (l : List Dt) (i : Nat) : Nat := (firstN l i (l.getD i Dt.zero)).getD i
/-- the firsts among n -/
def entL (l : List Dt) (n : Nat) : List Nat := (List.range n).filter fun j => gAt l j == j
theorem gAt_le (l : List Dt) (i : Nat) : gAt l i ≤ i := by
  unfold gAt
  cases h : firstN l i (l.getD i Dt.zero) with
  | none => exact Nat.le_refl _
  | some j =>
    unfold firstN at h
    rw [List.find?_range_eq_some] at h
    have := List.mem_range.1 h.2.1
    simp only [Option.getD_some]
    omega
theorem firstN_none {l : List Dt} {n : Nat} {d : Dt} (h : firstN l n d = none) {j : Nat} (hj : j < n) : (eqD (l.getD j Dt.zero) d).1 = false := by
  unfold firstN at h
  rw [List.find?_eq_none] at h
  simpa using h j (List.mem_range.2 hj)
theorem firstN_some {l : List Dt} {n m : Nat} {d : Dt} : firstN l n d = some m ↔ (eqD (l.getD m Dt.zero) d).1 = true ∧ m < n ∧ ∀ j, j < m → (eqD (l.getD j Dt.zero) d).1 = false := by
  unfold firstN
  rw [List.find?_range_eq_some]
  simp [List.mem_range]
/-- the first that is equal is the first of its group -/
theorem first_own {l : List Dt} (hs : ∀ j, shapeD (l.getD j Dt.zero)) {n m : Nat} {d : Dt} (hd : shapeD d) (h : firstN l n d = some m) : gAt l m = m := by
  rw [firstN_some] at h
  unfold gAt
  cases hg : firstN l m (l.getD m Dt.zero) with
  | none => rfl
  | some k =>
    rw [firstN_some] at hg
    have h1 := eqD_trans (hs k) (hs m) hd hg.1 h.1
    rw [h.2.2 k hg.2.1] at h1
    cases h1
theorem find_ent {l : List Dt} (hs : ∀ j, shapeD (l.getD j Dt.zero)) (n : Nat) {d : Dt} (hd : shapeD d) : (entL l n).find? (fun j => (eqD (l.getD j Dt.zero) d).1) = firstN l n d := by
  unfold entL
  rw [List.find?_filter]
  cases h : firstN l n d with
  | none =>
    rw [List.find?_eq_none]
    intro j hj
    rw [firstN_none h (List.mem_range.1 hj)]
    simp
  | some m =>
    have ho := first_own hs hd h
    rw [firstN_some] at h
    rw [List.find?_range_eq_some]
    refine ⟨by rw [h.1, ho]; simp, List.mem_range.2 h.2.1, fun j hj => ?_⟩
    rw [h.2.2 j hj]
    simp
/-- a group's place is its first's; the same place: equal -/
theorem gAt_gAt {l : List Dt} (hs : ∀ j, shapeD (l.getD j Dt.zero)) (i : Nat) : gAt l (gAt l i) = gAt l i := by
  cases h : firstN l i (l.getD i Dt.zero) with
  | none =>
    have : gAt l i = i := by unfold gAt; rw [h]; rfl
    rw [this, this]
  | some m =>
    have : gAt l i = m := by unfold gAt; rw [h]; rfl
    rw [this]
    exact first_own hs (hs i) h
theorem gAt_eq {l : List Dt} (hs : ∀ j, shapeD (l.getD j Dt.zero)) {i k : Nat} (hk : k < i) : (gAt l i = gAt l k) ↔ (eqD (l.getD i Dt.zero) (l.getD k Dt.zero)).1 = true := by
  have hg : ∀ i, gAt l i = i ∨ (eqD (l.getD (gAt l i) Dt.zero) (l.getD i Dt.zero)).1 = true := fun i => by
    cases h : firstN l i (l.getD i Dt.zero) with
    | none => exact .inl (by unfold gAt; rw [h]; rfl)
    | some m =>
      have e : gAt l i = m := by unfold gAt; rw [h]; rfl
      rw [firstN_some] at h
      exact .inr (by rw [e]; exact h.1)
  constructor
  · intro e
    have hle := gAt_le l k
    rcases hg i with h1 | h1
    · omega
    · rcases hg k with h2 | h2
      · rw [e, h2] at h1
        rw [eqD_symm]; exact h1
      · rw [e] at h1
        rw [eqD_symm] at h1
        exact eqD_trans (hs i) (hs _) (hs k) h1 h2
  · intro e
    rw [eqD_symm] at e
    -- the firsts of both are the same
    have hfirst : ∀ m, m < k → (eqD (l.getD m Dt.zero) (l.getD i Dt.zero)).1 = (eqD (l.getD m Dt.zero) (l.getD k Dt.zero)).1 := fun m _ => by
      rw [Bool.eq_iff_iff]
      constructor
      · intro h
        exact eqD_trans (hs m) (hs i) (hs k) h (by rw [eqD_symm]; exact e)
      · intro h
        exact eqD_trans (hs m) (hs k) (hs i) h e
    cases h : firstN l k (l.getD k Dt.zero) with
    | none =>
      have e2 : gAt l k = k := by unfold gAt; rw [h]; rfl
      have h3 : firstN l i (l.getD i Dt.zero) = some k := firstN_some.2 ⟨e, hk, fun j hj => by rw [hfirst j hj]; exact firstN_none h hj⟩
      rw [e2]; unfold gAt; rw [h3]; rfl
    | some m =>
      have e2 : gAt l k = m := by unfold gAt; rw [h]; rfl
      have h' := firstN_some.1 h
      have h3 : firstN l i (l.getD i Dt.zero) = some m := firstN_some.2 ⟨by rw [hfirst m h'.2.1]; exact h'.1, by omega, fun j hj => by rw [hfirst j (by omega)]; exact h'.2.2 j hj⟩
      rw [e2]; unfold gAt; rw [h3]; rfl
end Go.Proofs.YtofpdhkdnbnobaaDoor
