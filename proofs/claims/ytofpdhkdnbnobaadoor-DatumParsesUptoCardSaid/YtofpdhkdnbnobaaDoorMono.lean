/-
  The reader's plain laws: it goes forward. Not a statement of the seat.
-/
import Derived.Test.YtofpdhkdnbnobaaDoorPure
namespace Go.Proofs.YtofpdhkdnbnobaaDoor

theorem numTo_le (S : Bs) (a : Nat) : a ≤ numTo S a := by unfold numTo digM; split <;> omega
theorem quotedM_le (S : Bs) : ∀ f a o t b, quotedM S f a o = .ok t b → a ≤ b
  | 0, a, o, t, b, h => by simp [quotedM] at h
  | f + 1, a, o, t, b, h => by
    rw [quotedM] at h
    repeat' split at h
    all_goals first
      | (cases h; done)
      | (cases h; omega)
      | (have := quotedM_le S f _ _ _ _ h; omega)
set_option maxHeartbeats 1000000 in
theorem valueM_rowM_le (S : Bs) : ∀ f, (∀ deep a d b, valueM S f deep a = .ok d b → a ≤ b) ∧ (∀ deep a e acc g b, rowM S f deep a e acc = .ok g b → a ≤ b)
  | 0 => ⟨fun deep a d b h => by simp [valueM] at h, fun deep a e acc g b h => by simp [rowM] at h⟩
  | f + 1 => by
    obtain ⟨ihv, ihr⟩ := valueM_rowM_le S f
    constructor
    · intro deep a d b h
      have hn := numTo_le S (a + 1)
      have hn0 := numTo_le S a
      rw [valueM] at h
      by_cases c : deep = 16
      · rw [if_pos c] at h; cases h
      rw [if_neg c] at h
      by_cases c : hasM S a [110, 105, 108] = true
      · rw [if_pos c] at h
        repeat' split at h
        all_goals first
          | (cases h; done)
          | (cases h; omega)
          | (cases h; rename_i h1; first | (have := quotedM_le S f _ _ _ _ h1; omega) | (have := ihr _ _ _ _ _ _ h1; omega))
          | (cases h; rename_i h1; have hn2 := numTo_le S (a + 1); first | (have := quotedM_le S f _ _ _ _ h1; omega) | (have := ihr _ _ _ _ _ _ h1; omega))
      rw [if_neg c] at h
      by_cases c : hasM S a [116, 114, 117, 101] = true
      · rw [if_pos c] at h
        repeat' split at h
        all_goals first
          | (cases h; done)
          | (cases h; omega)
          | (cases h; rename_i h1; first | (have := quotedM_le S f _ _ _ _ h1; omega) | (have := ihr _ _ _ _ _ _ h1; omega))
          | (cases h; rename_i h1; have hn2 := numTo_le S (a + 1); first | (have := quotedM_le S f _ _ _ _ h1; omega) | (have := ihr _ _ _ _ _ _ h1; omega))
      rw [if_neg c] at h
      by_cases c : hasM S a [102, 97, 108, 115, 101] = true
      · rw [if_pos c] at h
        repeat' split at h
        all_goals first
          | (cases h; done)
          | (cases h; omega)
          | (cases h; rename_i h1; first | (have := quotedM_le S f _ _ _ _ h1; omega) | (have := ihr _ _ _ _ _ _ h1; omega))
          | (cases h; rename_i h1; have hn2 := numTo_le S (a + 1); first | (have := quotedM_le S f _ _ _ _ h1; omega) | (have := ihr _ _ _ _ _ _ h1; omega))
      rw [if_neg c] at h
      by_cases c : hasM S a [123, 125] = true
      · rw [if_pos c] at h
        repeat' split at h
        all_goals first
          | (cases h; done)
          | (cases h; omega)
          | (cases h; rename_i h1; first | (have := quotedM_le S f _ _ _ _ h1; omega) | (have := ihr _ _ _ _ _ _ h1; omega))
          | (cases h; rename_i h1; have hn2 := numTo_le S (a + 1); first | (have := quotedM_le S f _ _ _ _ h1; omega) | (have := ihr _ _ _ _ _ _ h1; omega))
      rw [if_neg c] at h
      by_cases c : hasM S a [38, 110, 105, 108] = true
      · rw [if_pos c] at h
        repeat' split at h
        all_goals first
          | (cases h; done)
          | (cases h; omega)
          | (cases h; rename_i h1; first | (have := quotedM_le S f _ _ _ _ h1; omega) | (have := ihr _ _ _ _ _ _ h1; omega))
          | (cases h; rename_i h1; have hn2 := numTo_le S (a + 1); first | (have := quotedM_le S f _ _ _ _ h1; omega) | (have := ihr _ _ _ _ _ _ h1; omega))
      rw [if_neg c] at h
      by_cases c : hasM S a [35] = true
      · rw [if_pos c] at h
        repeat' split at h
        all_goals first
          | (cases h; done)
          | (cases h; omega)
          | (cases h; rename_i h1; first | (have := quotedM_le S f _ _ _ _ h1; omega) | (have := ihr _ _ _ _ _ _ h1; omega))
          | (cases h; rename_i h1; have hn2 := numTo_le S (a + 1); first | (have := quotedM_le S f _ _ _ _ h1; omega) | (have := ihr _ _ _ _ _ _ h1; omega))
      rw [if_neg c] at h
      by_cases c : hasM S a [102] = true
      · rw [if_pos c] at h
        repeat' split at h
        all_goals first
          | (cases h; done)
          | (cases h; omega)
          | (cases h; rename_i h1; first | (have := quotedM_le S f _ _ _ _ h1; omega) | (have := ihr _ _ _ _ _ _ h1; omega))
          | (cases h; rename_i h1; have hn2 := numTo_le S (a + 1); first | (have := quotedM_le S f _ _ _ _ h1; omega) | (have := ihr _ _ _ _ _ _ h1; omega))
      rw [if_neg c] at h
      by_cases c : hasM S a [64] = true
      · rw [if_pos c] at h
        repeat' split at h
        all_goals first
          | (cases h; done)
          | (cases h; omega)
          | (cases h; rename_i h1; first | (have := quotedM_le S f _ _ _ _ h1; omega) | (have := ihr _ _ _ _ _ _ h1; omega))
          | (cases h; rename_i h1; have hn2 := numTo_le S (a + 1); first | (have := quotedM_le S f _ _ _ _ h1; omega) | (have := ihr _ _ _ _ _ _ h1; omega))
      rw [if_neg c] at h
      by_cases c : hasM S a [37] = true
      · rw [if_pos c] at h
        repeat' split at h
        all_goals first
          | (cases h; done)
          | (cases h; omega)
          | (cases h; rename_i h1; first | (have := quotedM_le S f _ _ _ _ h1; omega) | (have := ihr _ _ _ _ _ _ h1; omega))
          | (cases h; rename_i h1; have hn2 := numTo_le S (a + 1); first | (have := quotedM_le S f _ _ _ _ h1; omega) | (have := ihr _ _ _ _ _ _ h1; omega))
      rw [if_neg c] at h
      by_cases c : hasM S a [33] = true
      · rw [if_pos c] at h
        repeat' split at h
        all_goals first
          | (cases h; done)
          | (cases h; omega)
          | (cases h; rename_i h1; first | (have := quotedM_le S f _ _ _ _ h1; omega) | (have := ihr _ _ _ _ _ _ h1; omega))
          | (cases h; rename_i h1; have hn2 := numTo_le S (a + 1); first | (have := quotedM_le S f _ _ _ _ h1; omega) | (have := ihr _ _ _ _ _ _ h1; omega))
      rw [if_neg c] at h
      by_cases c : hasM S a [38] = true
      · rw [if_pos c] at h
        repeat' split at h
        all_goals first
          | (cases h; done)
          | (cases h; omega)
          | (cases h; rename_i h1; first | (have := quotedM_le S f _ _ _ _ h1; omega) | (have := ihr _ _ _ _ _ _ h1; omega))
          | (cases h; rename_i h1; have hn2 := numTo_le S (a + 1); first | (have := quotedM_le S f _ _ _ _ h1; omega) | (have := ihr _ _ _ _ _ _ h1; omega))
      rw [if_neg c] at h
      by_cases c : hasM S a [91] = true
      · rw [if_pos c] at h
        repeat' split at h
        all_goals first
          | (cases h; done)
          | (cases h; omega)
          | (cases h; rename_i h1; first | (have := quotedM_le S f _ _ _ _ h1; omega) | (have := ihr _ _ _ _ _ _ h1; omega))
          | (cases h; rename_i h1; have hn2 := numTo_le S (a + 1); first | (have := quotedM_le S f _ _ _ _ h1; omega) | (have := ihr _ _ _ _ _ _ h1; omega))
      rw [if_neg c] at h
      by_cases c : hasM S a [40] = true
      · rw [if_pos c] at h
        repeat' split at h
        all_goals first
          | (cases h; done)
          | (cases h; omega)
          | (cases h; rename_i h1; first | (have := quotedM_le S f _ _ _ _ h1; omega) | (have := ihr _ _ _ _ _ _ h1; omega))
          | (cases h; rename_i h1; have hn2 := numTo_le S (a + 1); first | (have := quotedM_le S f _ _ _ _ h1; omega) | (have := ihr _ _ _ _ _ _ h1; omega))
      rw [if_neg c] at h
      by_cases c : hasM S a [34] = true
      · rw [if_pos c] at h
        repeat' split at h
        all_goals first
          | (cases h; done)
          | (cases h; omega)
          | (cases h; rename_i h1; first | (have := quotedM_le S f _ _ _ _ h1; omega) | (have := ihr _ _ _ _ _ _ h1; omega))
          | (cases h; rename_i h1; have hn2 := numTo_le S (a + 1); first | (have := quotedM_le S f _ _ _ _ h1; omega) | (have := ihr _ _ _ _ _ _ h1; omega))
      rw [if_neg c] at h
      split at h
      · cases h; omega
      · cases h
    · intro deep a e acc g b h
      rw [rowM] at h
      repeat' split at h
      all_goals first
        | (cases h; done)
        | (cases h; omega)
        | (rename_i h1; have h2 := ihv _ _ _ _ h1; have h3 := ihr _ _ _ _ _ _ h; omega)
theorem valueM_le {S : Bs} {f deep a b : Nat} {d : Dt} (h : valueM S f deep a = .ok d b) : a ≤ b := (valueM_rowM_le S f).1 _ _ _ _ h
theorem rowM_le {S : Bs} {f deep a b : Nat} {e : Bs} {acc g : Fo} (h : rowM S f deep a e acc = .ok g b) : a ≤ b := (valueM_rowM_le S f).2 _ _ _ _ _ _ h
end Go.Proofs.YtofpdhkdnbnobaaDoor
