/-
  The reader comes to an end (plain laws). Not a statement of the seat.
-/
import Derived.Test.YtofpdhkdnbnobaaDoorROneP
namespace Go.Proofs.YtofpdhkdnbnobaaDoor

theorem numText_nil {L : Bs} {a : Nat} (h : numTo L a = a) : numText L a = [] := by
  unfold numTo digM at h
  rw [numText_eq]
  unfold digsM digM
  cases hs : signM L a
  · rw [hs] at h
    simp only [if_neg (show ¬ false = true by simp)] at h ⊢
    rw [show whileM L a decD = 0 by omega]
    rfl
  · rw [hs] at h
    simp only [if_pos] at h
    omega
theorem numTo_lt {L : Bs} {a : Nat} {v : Int} (h : numberM L a = some v) : a < numTo L a := by
  have h1 := numTo_le L a
  rcases Nat.lt_or_ge a (numTo L a) with h2 | h2
  · exact h2
  · have h3 := numText_nil (L := L) (a := a) (by omega)
    unfold numberM at h
    rw [h3] at h
    simp [Go.Lib.parseIntB] at h
set_option maxHeartbeats 1000000 in
theorem valueM_lt (S : Bs) (f deep a b : Nat) (d : Dt) (h : valueM S (f + 1) deep a = .ok d b) : a < b := by
    have hn := numTo_le S (a + 1)
    have hn0 := numTo_le S a
    rw [valueM] at h
    by_cases c : deep = 16
    · rw [if_pos c] at h; cases h
    rw [if_neg c] at h
    by_cases c : hasM S a [110, 105, 108] = true
    · rw [if_pos c] at h
      repeat' split at h
      all_goals first
        | (cases h; done)
        | (cases h; omega)
        | (cases h; rename_i h1; first | (have := quotedM_le S f _ _ _ _ h1; omega) | (have := (valueM_rowM_le S f).2 _ _ _ _ _ _ h1; omega))
        | (cases h; rename_i h1; have hn2 := numTo_le S (a + 1); first | (have := quotedM_le S f _ _ _ _ h1; omega) | (have := (valueM_rowM_le S f).2 _ _ _ _ _ _ h1; omega))
    rw [if_neg c] at h
    by_cases c : hasM S a [116, 114, 117, 101] = true
    · rw [if_pos c] at h
      repeat' split at h
      all_goals first
        | (cases h; done)
        | (cases h; omega)
        | (cases h; rename_i h1; first | (have := quotedM_le S f _ _ _ _ h1; omega) | (have := (valueM_rowM_le S f).2 _ _ _ _ _ _ h1; omega))
        | (cases h; rename_i h1; have hn2 := numTo_le S (a + 1); first | (have := quotedM_le S f _ _ _ _ h1; omega) | (have := (valueM_rowM_le S f).2 _ _ _ _ _ _ h1; omega))
    rw [if_neg c] at h
    by_cases c : hasM S a [102, 97, 108, 115, 101] = true
    · rw [if_pos c] at h
      repeat' split at h
      all_goals first
        | (cases h; done)
        | (cases h; omega)
        | (cases h; rename_i h1; first | (have := quotedM_le S f _ _ _ _ h1; omega) | (have := (valueM_rowM_le S f).2 _ _ _ _ _ _ h1; omega))
        | (cases h; rename_i h1; have hn2 := numTo_le S (a + 1); first | (have := quotedM_le S f _ _ _ _ h1; omega) | (have := (valueM_rowM_le S f).2 _ _ _ _ _ _ h1; omega))
    rw [if_neg c] at h
    by_cases c : hasM S a [123, 125] = true
    · rw [if_pos c] at h
      repeat' split at h
      all_goals first
        | (cases h; done)
        | (cases h; omega)
        | (cases h; rename_i h1; first | (have := quotedM_le S f _ _ _ _ h1; omega) | (have := (valueM_rowM_le S f).2 _ _ _ _ _ _ h1; omega))
        | (cases h; rename_i h1; have hn2 := numTo_le S (a + 1); first | (have := quotedM_le S f _ _ _ _ h1; omega) | (have := (valueM_rowM_le S f).2 _ _ _ _ _ _ h1; omega))
    rw [if_neg c] at h
    by_cases c : hasM S a [38, 110, 105, 108] = true
    · rw [if_pos c] at h
      repeat' split at h
      all_goals first
        | (cases h; done)
        | (cases h; omega)
        | (cases h; rename_i h1; first | (have := quotedM_le S f _ _ _ _ h1; omega) | (have := (valueM_rowM_le S f).2 _ _ _ _ _ _ h1; omega))
        | (cases h; rename_i h1; have hn2 := numTo_le S (a + 1); first | (have := quotedM_le S f _ _ _ _ h1; omega) | (have := (valueM_rowM_le S f).2 _ _ _ _ _ _ h1; omega))
    rw [if_neg c] at h
    by_cases c : hasM S a [35] = true
    · rw [if_pos c] at h
      repeat' split at h
      all_goals first
        | (cases h; done)
        | (cases h; omega)
        | (cases h; rename_i h1; first | (have := quotedM_le S f _ _ _ _ h1; omega) | (have := (valueM_rowM_le S f).2 _ _ _ _ _ _ h1; omega))
        | (cases h; rename_i h1; have hn2 := numTo_le S (a + 1); first | (have := quotedM_le S f _ _ _ _ h1; omega) | (have := (valueM_rowM_le S f).2 _ _ _ _ _ _ h1; omega))
    rw [if_neg c] at h
    by_cases c : hasM S a [102] = true
    · rw [if_pos c] at h
      repeat' split at h
      all_goals first
        | (cases h; done)
        | (cases h; omega)
        | (cases h; rename_i h1; first | (have := quotedM_le S f _ _ _ _ h1; omega) | (have := (valueM_rowM_le S f).2 _ _ _ _ _ _ h1; omega))
        | (cases h; rename_i h1; have hn2 := numTo_le S (a + 1); first | (have := quotedM_le S f _ _ _ _ h1; omega) | (have := (valueM_rowM_le S f).2 _ _ _ _ _ _ h1; omega))
    rw [if_neg c] at h
    by_cases c : hasM S a [64] = true
    · rw [if_pos c] at h
      repeat' split at h
      all_goals first
        | (cases h; done)
        | (cases h; omega)
        | (cases h; rename_i h1; first | (have := quotedM_le S f _ _ _ _ h1; omega) | (have := (valueM_rowM_le S f).2 _ _ _ _ _ _ h1; omega))
        | (cases h; rename_i h1; have hn2 := numTo_le S (a + 1); first | (have := quotedM_le S f _ _ _ _ h1; omega) | (have := (valueM_rowM_le S f).2 _ _ _ _ _ _ h1; omega))
    rw [if_neg c] at h
    by_cases c : hasM S a [37] = true
    · rw [if_pos c] at h
      repeat' split at h
      all_goals first
        | (cases h; done)
        | (cases h; omega)
        | (cases h; rename_i h1; first | (have := quotedM_le S f _ _ _ _ h1; omega) | (have := (valueM_rowM_le S f).2 _ _ _ _ _ _ h1; omega))
        | (cases h; rename_i h1; have hn2 := numTo_le S (a + 1); first | (have := quotedM_le S f _ _ _ _ h1; omega) | (have := (valueM_rowM_le S f).2 _ _ _ _ _ _ h1; omega))
    rw [if_neg c] at h
    by_cases c : hasM S a [33] = true
    · rw [if_pos c] at h
      repeat' split at h
      all_goals first
        | (cases h; done)
        | (cases h; omega)
        | (cases h; rename_i h1; first | (have := quotedM_le S f _ _ _ _ h1; omega) | (have := (valueM_rowM_le S f).2 _ _ _ _ _ _ h1; omega))
        | (cases h; rename_i h1; have hn2 := numTo_le S (a + 1); first | (have := quotedM_le S f _ _ _ _ h1; omega) | (have := (valueM_rowM_le S f).2 _ _ _ _ _ _ h1; omega))
    rw [if_neg c] at h
    by_cases c : hasM S a [38] = true
    · rw [if_pos c] at h
      repeat' split at h
      all_goals first
        | (cases h; done)
        | (cases h; omega)
        | (cases h; rename_i h1; first | (have := quotedM_le S f _ _ _ _ h1; omega) | (have := (valueM_rowM_le S f).2 _ _ _ _ _ _ h1; omega))
        | (cases h; rename_i h1; have hn2 := numTo_le S (a + 1); first | (have := quotedM_le S f _ _ _ _ h1; omega) | (have := (valueM_rowM_le S f).2 _ _ _ _ _ _ h1; omega))
    rw [if_neg c] at h
    by_cases c : hasM S a [91] = true
    · rw [if_pos c] at h
      repeat' split at h
      all_goals first
        | (cases h; done)
        | (cases h; omega)
        | (cases h; rename_i h1; first | (have := quotedM_le S f _ _ _ _ h1; omega) | (have := (valueM_rowM_le S f).2 _ _ _ _ _ _ h1; omega))
        | (cases h; rename_i h1; have hn2 := numTo_le S (a + 1); first | (have := quotedM_le S f _ _ _ _ h1; omega) | (have := (valueM_rowM_le S f).2 _ _ _ _ _ _ h1; omega))
    rw [if_neg c] at h
    by_cases c : hasM S a [40] = true
    · rw [if_pos c] at h
      repeat' split at h
      all_goals first
        | (cases h; done)
        | (cases h; omega)
        | (cases h; rename_i h1; first | (have := quotedM_le S f _ _ _ _ h1; omega) | (have := (valueM_rowM_le S f).2 _ _ _ _ _ _ h1; omega))
        | (cases h; rename_i h1; have hn2 := numTo_le S (a + 1); first | (have := quotedM_le S f _ _ _ _ h1; omega) | (have := (valueM_rowM_le S f).2 _ _ _ _ _ _ h1; omega))
    rw [if_neg c] at h
    by_cases c : hasM S a [34] = true
    · rw [if_pos c] at h
      repeat' split at h
      all_goals first
        | (cases h; done)
        | (cases h; omega)
        | (cases h; rename_i h1; first | (have := quotedM_le S f _ _ _ _ h1; omega) | (have := (valueM_rowM_le S f).2 _ _ _ _ _ _ h1; omega))
        | (cases h; rename_i h1; have hn2 := numTo_le S (a + 1); first | (have := quotedM_le S f _ _ _ _ h1; omega) | (have := (valueM_rowM_le S f).2 _ _ _ _ _ _ h1; omega))
    rw [if_neg c] at h
    split at h
    · rename_i h1
      have := numTo_lt h1
      cases h
      exact this
    · cases h
theorem valueM_end {L : Bs} {f deep a : Nat} (h : L.length ≤ a) : valueM L (f + 1) deep a = .bad := by
  by_cases h16 : deep = 16
  · rw [valueM, if_pos h16]
  · refine vm_none h16 (hasM_short (by simp; omega) (by simp)) (hasM_short (by simp; omega) (by simp)) (hasM_short (by simp; omega) (by simp)) (hasM_short (by simp; omega) (by simp)) (hasM_short (by simp; omega) (by simp)) (hasM_short (by simp; omega) (by simp)) (hasM_short (by simp; omega) (by simp)) (hasM_short (by simp; omega) (by simp)) (hasM_short (by simp; omega) (by simp)) (hasM_short (by simp; omega) (by simp)) (hasM_short (by simp; omega) (by simp)) (hasM_short (by simp; omega) (by simp)) (hasM_short (by simp; omega) (by simp)) (hasM_short (by simp; omega) (by simp)) (no_number ?_ ?_)
    · rw [nx_end h]; decide
    · rw [nx_end h]; decide
theorem quotedM_fuel (S : Bs) : ∀ (f a : Nat) (o : Bs), S.length - a + 1 ≤ f → quotedM S f a o ≠ .out
  | 0, a, o, h => by omega
  | f + 1, a, o, h => by
    intro h1
    rw [quotedM] at h1
    split at h1
    · cases h1
    · rename_i hc
      have hl := (List.getElem?_eq_some_iff.1 hc).1
      repeat' split at h1
      all_goals first
        | (cases h1; done)
        | exact quotedM_fuel S f _ _ (by omega) h1
set_option maxHeartbeats 2000000 in
theorem fuel_all (S : Bs) : ∀ f, (∀ deep a, 2 * (S.length - a) + 1 ≤ f → valueM S f deep a ≠ .out) ∧ (∀ deep a e acc, 2 * (S.length - a) + 2 ≤ f → rowM S f deep a e acc ≠ .out)
  | 0 => ⟨fun deep a h => by omega, fun deep a e acc h => by omega⟩
  | f + 1 => by
    obtain ⟨ihv, ih⟩ := fuel_all S f
    constructor
    · intro deep a hf h
      rcases Nat.lt_or_ge a S.length with hl | hl
      · have hn := numTo_le S (a + 1)
        rw [valueM] at h
        by_cases c : deep = 16
        · rw [if_pos c] at h; cases h
        rw [if_neg c] at h
        by_cases c : hasM S a [110, 105, 108] = true
        · rw [if_pos c] at h
          repeat' split at h
          all_goals first
            | (cases h; done)
            | (rename_i h1; first | exact quotedM_fuel S f _ _ (by omega) h1 | exact ih _ _ _ _ (by omega) h1)
        rw [if_neg c] at h
        by_cases c : hasM S a [116, 114, 117, 101] = true
        · rw [if_pos c] at h
          repeat' split at h
          all_goals first
            | (cases h; done)
            | (rename_i h1; first | exact quotedM_fuel S f _ _ (by omega) h1 | exact ih _ _ _ _ (by omega) h1)
        rw [if_neg c] at h
        by_cases c : hasM S a [102, 97, 108, 115, 101] = true
        · rw [if_pos c] at h
          repeat' split at h
          all_goals first
            | (cases h; done)
            | (rename_i h1; first | exact quotedM_fuel S f _ _ (by omega) h1 | exact ih _ _ _ _ (by omega) h1)
        rw [if_neg c] at h
        by_cases c : hasM S a [123, 125] = true
        · rw [if_pos c] at h
          repeat' split at h
          all_goals first
            | (cases h; done)
            | (rename_i h1; first | exact quotedM_fuel S f _ _ (by omega) h1 | exact ih _ _ _ _ (by omega) h1)
        rw [if_neg c] at h
        by_cases c : hasM S a [38, 110, 105, 108] = true
        · rw [if_pos c] at h
          repeat' split at h
          all_goals first
            | (cases h; done)
            | (rename_i h1; first | exact quotedM_fuel S f _ _ (by omega) h1 | exact ih _ _ _ _ (by omega) h1)
        rw [if_neg c] at h
        by_cases c : hasM S a [35] = true
        · rw [if_pos c] at h
          repeat' split at h
          all_goals first
            | (cases h; done)
            | (rename_i h1; first | exact quotedM_fuel S f _ _ (by omega) h1 | exact ih _ _ _ _ (by omega) h1)
        rw [if_neg c] at h
        by_cases c : hasM S a [102] = true
        · rw [if_pos c] at h
          repeat' split at h
          all_goals first
            | (cases h; done)
            | (rename_i h1; first | exact quotedM_fuel S f _ _ (by omega) h1 | exact ih _ _ _ _ (by omega) h1)
        rw [if_neg c] at h
        by_cases c : hasM S a [64] = true
        · rw [if_pos c] at h
          repeat' split at h
          all_goals first
            | (cases h; done)
            | (rename_i h1; first | exact quotedM_fuel S f _ _ (by omega) h1 | exact ih _ _ _ _ (by omega) h1)
        rw [if_neg c] at h
        by_cases c : hasM S a [37] = true
        · rw [if_pos c] at h
          repeat' split at h
          all_goals first
            | (cases h; done)
            | (rename_i h1; first | exact quotedM_fuel S f _ _ (by omega) h1 | exact ih _ _ _ _ (by omega) h1)
        rw [if_neg c] at h
        by_cases c : hasM S a [33] = true
        · rw [if_pos c] at h
          repeat' split at h
          all_goals first
            | (cases h; done)
            | (rename_i h1; first | exact quotedM_fuel S f _ _ (by omega) h1 | exact ih _ _ _ _ (by omega) h1)
        rw [if_neg c] at h
        by_cases c : hasM S a [38] = true
        · rw [if_pos c] at h
          repeat' split at h
          all_goals first
            | (cases h; done)
            | (rename_i h1; first | exact quotedM_fuel S f _ _ (by omega) h1 | exact ih _ _ _ _ (by omega) h1)
        rw [if_neg c] at h
        by_cases c : hasM S a [91] = true
        · rw [if_pos c] at h
          repeat' split at h
          all_goals first
            | (cases h; done)
            | (rename_i h1; first | exact quotedM_fuel S f _ _ (by omega) h1 | exact ih _ _ _ _ (by omega) h1)
        rw [if_neg c] at h
        by_cases c : hasM S a [40] = true
        · rw [if_pos c] at h
          repeat' split at h
          all_goals first
            | (cases h; done)
            | (rename_i h1; first | exact quotedM_fuel S f _ _ (by omega) h1 | exact ih _ _ _ _ (by omega) h1)
        rw [if_neg c] at h
        by_cases c : hasM S a [34] = true
        · rw [if_pos c] at h
          repeat' split at h
          all_goals first
            | (cases h; done)
            | (rename_i h1; first | exact quotedM_fuel S f _ _ (by omega) h1 | exact ih _ _ _ _ (by omega) h1)
        rw [if_neg c] at h
        split at h <;> cases h
      · rw [valueM_end hl] at h; cases h
    · intro deep a e acc hf h
      rw [rowM_step] at h
      unfold rowV at h
      split at h
      · cases h
      · split at h
        · split at h
          · rename_i d b hv
            refine ih _ _ _ _ ?_ h
            cases f with
            | zero => omega
            | succ g =>
              have h1 := valueM_lt _ _ _ _ _ _ hv
              rcases Nat.lt_or_ge a S.length with hl | hl
              · omega
              · rw [valueM_end hl] at hv; cases hv
          · cases h
          · rename_i hv; exact ihv _ _ (by omega) hv
        · split at h
          · rename_i hx
            have hl : a + 2 ≤ S.length := by
              rcases hasM_len hx with h1 | h1
              · exact h1
              · cases h1
            split at h
            · rename_i d b hv
              refine ih _ _ _ _ ?_ h
              cases f with
              | zero => omega
              | succ g =>
                have h1 := valueM_lt _ _ _ _ _ _ hv
                omega
            · cases h
            · rename_i hv; exact ihv _ _ (by omega) hv
          · cases h
theorem fuel (S : Bs) (deep a : Nat) : ∃ f, valueM S f deep a ≠ .out := ⟨_, (fuel_all S _).1 deep a (Nat.le_refl _)⟩
end Go.Proofs.YtofpdhkdnbnobaaDoor
