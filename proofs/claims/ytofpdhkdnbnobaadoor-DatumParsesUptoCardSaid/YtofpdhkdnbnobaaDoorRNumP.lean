/-
  Which numbers are read, by the value of their digits (plain laws). Not a statement of the seat.
-/
import Derived.Test.YtofpdhkdnbnobaaDoorRound
namespace Go.Proofs.YtofpdhkdnbnobaaDoor

/-- the number that digits spell -/
def valD (l : Bs) : Nat := l.foldl (fun n c => 10 * n + (c.toNat - 48)) 0
theorem valD_snoc (l : Bs) (c : UInt8) : valD (l ++ [c]) = 10 * valD l + (c.toNat - 48) := by simp [valD]
theorem valD_decF : ∀ (f u : Nat), u < 10 ^ f → valD (decF f u) = u
  | 0, u, h => by
    have : u = 0 := by simpa using h
    subst this
    rfl
  | f + 1, u, h => by
    rw [decF]
    split
    · rename_i h1
      have hd := (dig_dec ⟨u, h1⟩).2.2.2
      have e : valD [UInt8.ofNat (48 + u)] = 10 * 0 + ((UInt8.ofNat (48 + u)).toNat - 48) := rfl
      rw [e, hd]
      show 10 * 0 + u = u
      omega
    · rename_i h1
      have h2 : u / 10 < 10 ^ f := by rw [Nat.pow_succ] at h; omega
      have hd := (dig_dec ⟨u % 10, Nat.mod_lt _ (by omega)⟩).2.2.2
      rw [valD_snoc, valD_decF f _ h2, hd]
      show 10 * (u / 10) + u % 10 = u
      omega
theorem valD_more (l : Bs) : ∀ (m : Bs), valD l ≤ valD (l ++ m) := by
  intro m
  unfold valD
  rw [List.foldl_append]
  generalize List.foldl (fun n (c : UInt8) => 10 * n + (c.toNat - 48)) 0 l = x
  induction m generalizing x with
  | nil => exact Nat.le_refl _
  | cons c m ih =>
    rw [List.foldl_cons]
    exact Nat.le_trans (by omega) (ih _)
/-- a number's bounds -/
theorem parse_rng {l : Bs} {v : Int} (h : Go.Lib.parseIntB 64 l = .ok v) : -9223372036854775808 ≤ v ∧ v ≤ 9223372036854775807 := by
  cases l with
  | nil => simp [Go.Lib.parseIntB] at h
  | cons c r =>
    simp only [Go.Lib.parseIntB] at h
    generalize Go.Lib.parseUintB 64 (if c.toNat = 43 ∨ c.toNat = 45 then r else c :: r) = q at h
    cases q with
    | ok u =>
      simp only at h
      by_cases h1 : ¬ c.toNat = 45 ∧ 2 ^ (64 - 1) ≤ u
      · rw [if_pos h1] at h; cases h
      · rw [if_neg h1] at h
        by_cases h2 : c.toNat = 45 ∧ 2 ^ (64 - 1) < u
        · rw [if_pos h2] at h; cases h
        · rw [if_neg h2] at h
          injection h with h
          by_cases h3 : c.toNat = 45
          · rw [if_pos h3] at h
            simp [h3] at h2
            omega
          · rw [if_neg h3] at h
            simp [h3] at h1
            omega
    | _ => cases h
theorem number_of {L : Bs} {a : Nat} {x : Int} (h0 : -9223372036854775808 ≤ x) (h1 : x ≤ 9223372036854775807) (h : dec x = numText L a) : numberM L a = some x := by
  unfold numberM
  rw [← h, parse_dec h0 h1]
  simp
/-- the digits behind the sign -/
def digsM (L : Bs) (a : Nat) : Bs := (L.drop (digM L a)).take (whileM L (digM L a) decD)
theorem numText_eq (L : Bs) (a : Nat) : numText L a = (if signM L a then [45] else []) ++ digsM L a := rfl
theorem no_45 (f u : Nat) (r : Bs) : decF f u ≠ 45 :: r := by
  intro e
  obtain ⟨d, hd⟩ := decF_dig f u 45 (by rw [e]; simp)
  have := (dig_dec d).2.1
  rw [← hd] at this
  exact absurd this (by decide)
/-- a number that is read has the sign and the value of its digits -/
theorem number_val {L : Bs} {a : Nat} {v : Int} (hd : ∀ r, digsM L a ≠ 45 :: r) (h : numberM L a = some v) :
    dec v = numText L a ∧ (-9223372036854775808 ≤ v ∧ v ≤ 9223372036854775807) ∧ v = if signM L a then -(valD (digsM L a) : Int) else (valD (digsM L a) : Int) := by
  obtain ⟨h1, h2⟩ := number_tail h
  have hr := parse_rng h1
  refine ⟨h2, hr, ?_⟩
  rw [numText_eq] at h2
  unfold dec at h2
  by_cases hv : v < 0
  · rw [if_pos hv] at h2
    cases hs : signM L a
    · rw [hs] at h2
      exact absurd h2.symm (hd _)
    · rw [hs] at h2
      have e : decF 20 v.natAbs = digsM L a := by simpa using h2
      rw [← e, valD_decF 20 _ (by omega)]
      simp
      omega
  · rw [if_neg hv] at h2
    cases hs : signM L a
    · rw [hs] at h2
      have e : decF 20 v.toNat = digsM L a := by simpa using h2
      rw [← e, valD_decF 20 _ (by omega)]
      simp
      omega
    · rw [hs] at h2
      exact absurd h2 (no_45 _ _ _)
/-- too many -/
theorem number_big {L : Bs} {a : Nat} (hd : ∀ r, digsM L a ≠ 45 :: r) (h : 9223372036854775808 < valD (digsM L a)) : numberM L a = none := by
  cases hn : numberM L a with
  | none => rfl
  | some v =>
    obtain ⟨_, hr, hv⟩ := number_val hd hn
    cases hs : signM L a
    · rw [hs] at hv
      simp at hv
      omega
    · rw [hs] at hv
      simp at hv
      omega
/-- the value as it wraps round -/
def wrapV (neg : Bool) (n : Nat) : Int := if neg then (if n = 9223372036854775808 then -9223372036854775808 else -(n : Int)) else (if n = 9223372036854775808 then -9223372036854775808 else (n : Int))
theorem number_iff {L : Bs} {a : Nat} (hd : ∀ r, digsM L a ≠ 45 :: r) (h : valD (digsM L a) ≤ 9223372036854775808) :
    numberM L a = if dec (wrapV (signM L a) (valD (digsM L a))) = numText L a then some (wrapV (signM L a) (valD (digsM L a))) else none := by
  have hb : -9223372036854775808 ≤ wrapV (signM L a) (valD (digsM L a)) ∧ wrapV (signM L a) (valD (digsM L a)) ≤ 9223372036854775807 := by
    unfold wrapV
    split <;> split <;> omega
  by_cases he : dec (wrapV (signM L a) (valD (digsM L a))) = numText L a
  · rw [if_pos he]
    exact number_of hb.1 hb.2 he
  · rw [if_neg he]
    cases hn : numberM L a with
    | none => rfl
    | some v =>
      obtain ⟨h2, hr, hv⟩ := number_val hd hn
      refine absurd ?_ he
      rw [show wrapV (signM L a) (valD (digsM L a)) = v from ?_]
      · exact h2
      · unfold wrapV
        cases hs : signM L a
        · rw [hs] at hv
          simp at hv
          simp
          split <;> omega
        · rw [hs] at hv
          simp at hv
          simp
          split <;> omega
end Go.Proofs.YtofpdhkdnbnobaaDoor
