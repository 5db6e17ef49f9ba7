/-
  What is printed reads back as it was: plain laws, no program in sight. Not a statement of the seat.
-/
import Derived.Test.YtofpdhkdnbnobaaDoorLaidD
namespace Go.Proofs.YtofpdhkdnbnobaaDoor

/-- no digit of a number stands next -/
def Ends (r : Bs) : Prop := ∀ c r', r = c :: r' → Go.Lib.indexByte hexD c < 0
theorem Ends.nil : Ends [] := fun _ _ h => by cases h
theorem ends_cons {c : UInt8} {r : Bs} (h : Go.Lib.indexByte hexD c < 0) : Ends (c :: r) := fun _ _ e => by cases e; exact h
theorem drop_one {S : Bs} {a : Nat} {c : UInt8} {x : Bs} (h : S.drop a = c :: x) : S[a]? = some c ∧ S.drop (a + 1) = x := by
  constructor
  · rw [← List.head?_drop, h]; rfl
  · rw [← List.tail_drop, h]; rfl
theorem drop_app {S : Bs} {a : Nat} {x y : Bs} (h : S.drop a = x ++ y) : S.drop (a + x.length) = y := by
  rw [← List.drop_drop, h]; simp
theorem run_app {set : Bs} : ∀ (x r : Bs), (∀ c ∈ x, 0 ≤ Go.Lib.indexByte set c) → (∀ c r', r = c :: r' → Go.Lib.indexByte set c < 0) → runM set (x ++ r) = x.length
  | [], [], _, _ => rfl
  | [], c :: r, _, h => by
    have := h c r rfl
    rw [List.nil_append, runM, if_neg (by omega)]; rfl
  | c :: x, r, hx, h => by
    rw [List.cons_append, runM, if_pos (hx c (by simp)), run_app x r (fun y hy => hx y (by simp [hy])) h]; rfl

theorem dig_dec : ∀ d : Fin 10, 0 ≤ Go.Lib.indexByte decD (UInt8.ofNat (48 + d.val)) ∧ 48 ≤ (UInt8.ofNat (48 + d.val)).toNat ∧ (UInt8.ofNat (48 + d.val)).toNat ≤ 57 ∧ (UInt8.ofNat (48 + d.val)).toNat - 48 = d.val := by decide
theorem hex_dig : ∀ d : Fin 16, Go.Lib.indexByte hexD (hexD.getD d.val 0) = d.val := by decide
theorem dec_no_hex : ∀ n : Fin 256, Go.Lib.indexByte hexD (UInt8.ofNat n.val) < 0 → Go.Lib.indexByte decD (UInt8.ofNat n.val) < 0 := by decide +kernel
theorem ends_dec {r : Bs} (h : Ends r) : ∀ c r', r = c :: r' → Go.Lib.indexByte decD c < 0 := fun c r' e => by
  have := dec_no_hex ⟨c.toNat, c.toNat_lt⟩
  simp only [UInt8.ofNat_toNat] at this
  exact this (h c r' e)

theorem decF_dig : ∀ (f u : Nat), ∀ c ∈ decF f u, ∃ d : Fin 10, c = UInt8.ofNat (48 + d.val)
  | 0, _, c, h => by simp [decF] at h
  | f + 1, u, c, h => by
    rw [decF] at h
    split at h
    · rename_i hu
      exact ⟨⟨u, hu⟩, by simpa using h⟩
    · rw [List.mem_append] at h
      rcases h with h | h
      · exact decF_dig f _ c h
      · exact ⟨⟨u % 10, Nat.mod_lt _ (by omega)⟩, by simpa using h⟩
theorem decF_ne (f u : Nat) : decF (f + 1) u ≠ [] := by
  rw [decF]; split <;> simp
theorem parseU_app {M : Nat} : ∀ (x y : Bs) (acc v : Nat), Go.Lib.parseUintM M acc x = .ok v → Go.Lib.parseUintM M acc (x ++ y) = Go.Lib.parseUintM M v y
  | [], y, acc, v, h => by
    rw [Go.Lib.parseUintM] at h
    cases h
    rfl
  | c :: x, y, acc, v, h => by
    rw [Go.Lib.parseUintM] at h
    rw [List.cons_append, Go.Lib.parseUintM]
    split at h
    · rename_i h1
      rw [if_pos h1]
      split at h
      · cases h
      · rename_i h2
        rw [if_neg h2]
        split at h
        · cases h
        · rename_i h3
          rw [if_neg h3]
          exact parseU_app x y _ v h
    · cases h
theorem parseU_one {acc d : Nat} (hd : d < 10) (ha : acc * 10 + d ≤ 18446744073709551615) : Go.Lib.parseUintM (2 ^ 64 - 1) acc [UInt8.ofNat (48 + d)] = .ok (acc * 10 + d) := by
  obtain ⟨_, h1, h2, h3⟩ := dig_dec ⟨d, hd⟩
  rw [Go.Lib.parseUintM, if_pos ⟨h1, h2⟩, if_neg (by omega)]
  have h3' : (UInt8.ofNat (48 + d)).toNat - 48 = d := h3
  rw [h3', if_neg (by omega)]
  rfl
theorem parseU_decF : ∀ (f u : Nat), u < 10 ^ f → u ≤ 18446744073709551615 → Go.Lib.parseUintM (2 ^ 64 - 1) 0 (decF f u) = .ok u
  | 0, u, h, _ => by
    have : u = 0 := by simpa using h
    subst this
    rfl
  | f + 1, u, h, hu => by
    rw [decF]
    split
    · rename_i h1
      have := parseU_one (acc := 0) h1 (by omega)
      simpa using this
    · rename_i h1
      have h2 : u / 10 < 10 ^ f := by rw [Nat.pow_succ] at h; omega
      rw [parseU_app _ _ _ _ (parseU_decF f (u / 10) h2 (by omega)), parseU_one (Nat.mod_lt _ (by omega)) (by omega)]
      congr 1
      omega
theorem parse_dec {i : Int} (h0 : -9223372036854775808 ≤ i) (h1 : i ≤ 9223372036854775807) : Go.Lib.parseIntB 64 (dec i) = .ok i := by
  have hne := decF_ne 19
  have hp : ∀ u : Nat, u < 10 ^ 20 → u ≤ 18446744073709551615 → Go.Lib.parseUintB 64 (decF 20 u) = .ok u := fun u h2 h3 => by
    unfold Go.Lib.parseUintB
    rw [if_neg (hne _), parseU_decF 20 _ h2 h3]
  unfold dec
  by_cases hi : i < 0
  · rw [if_pos hi]
    have := hp i.natAbs (by omega) (by omega)
    simp only [Go.Lib.parseIntB, UInt8.reduceToNat, Nat.reduceEqDiff, or_true, if_true, this]
    rw [if_neg (by simp), if_neg (by omega)]
    congr 1
    omega
  · rw [if_neg hi]
    obtain ⟨c, r, hcr⟩ : ∃ c r, decF 20 i.toNat = c :: r := by
      cases h : decF 20 i.toNat with
      | nil => exact absurd h (hne _)
      | cons c r => exact ⟨c, r, rfl⟩
    obtain ⟨d, hd⟩ := decF_dig 20 i.toNat c (by rw [hcr]; simp)
    obtain ⟨_, hd1, hd2, _⟩ := dig_dec d
    rw [← hd] at hd1 hd2
    have hp := hp i.toNat (by omega) (by omega)
    rw [hcr] at hp ⊢
    have h4 : ¬ c.toNat = 43 := by omega
    have h5 : ¬ c.toNat = 45 := by omega
    simp only [Go.Lib.parseIntB, h4, h5, or_self, if_false, hp]
    rw [if_neg (by omega), if_neg (by simp)]
    congr 1
    omega

theorem number_back {S : Bs} {a : Nat} {i : Int} {r : Bs} (h : S.drop a = dec i ++ r) (hr : Ends r) (h0 : -9223372036854775808 ≤ i) (h1 : i ≤ 9223372036854775807) :
    numberM S a = some i ∧ numTo S a = a + (dec i).length := by
  have key : numText S a = dec i ∧ numTo S a = a + (dec i).length := by
    have hrd := ends_dec hr
    have hall : ∀ u, ∀ c ∈ decF 20 u, 0 ≤ Go.Lib.indexByte decD c := fun u c hc => by
      obtain ⟨d, rfl⟩ := decF_dig 20 u c hc
      exact (dig_dec d).1
    unfold dec at h ⊢
    by_cases hi : i < 0
    · rw [if_pos hi] at h ⊢
      have hs : signM S a = true := by unfold signM hasM; rw [h]; rfl
      have hd : digM S a = a + 1 := by unfold digM; rw [hs]; rfl
      have h2 := (drop_one h).2
      have hw : whileM S (digM S a) decD = (decF 20 i.natAbs).length := by
        unfold whileM
        rw [hd, show S.drop (a + 1) = decF 20 i.natAbs ++ r from h2, run_app _ _ (hall _) hrd]
      constructor
      · unfold numText
        rw [hw, hs, hd, show S.drop (a + 1) = decF 20 i.natAbs ++ r from h2]
        simp
      · unfold numTo
        rw [hw, hd]
        simp only [List.length_cons]
        omega
    · rw [if_neg hi] at h ⊢
      have hne := decF_ne 19 i.toNat
      have hs : signM S a = false := by
        unfold signM hasM; rw [h]
        cases hc : decF 20 i.toNat with
        | nil => exact absurd hc hne
        | cons c x =>
          obtain ⟨d, hd⟩ := decF_dig 20 i.toNat c (by rw [hc]; simp)
          have := (dig_dec d).2.1
          rw [← hd] at this
          simp only [List.cons_append, List.isPrefixOf, Bool.and_true, beq_eq_false_iff_ne, ne_eq]
          intro e
          rw [← e] at this
          exact absurd this (by decide)
      have hd : digM S a = a := by unfold digM; rw [hs]; rfl
      have hw : whileM S (digM S a) decD = (decF 20 i.toNat).length := by
        unfold whileM
        rw [hd, h, run_app _ _ (hall _) hrd]
      constructor
      · unfold numText
        rw [hw, hs, hd, h]
        simp
      · unfold numTo
        rw [hw, hd]
  refine ⟨?_, key.2⟩
  unfold numberM
  rw [key.1, parse_dec h0 h1]
  simp

theorem pair_back1 : ∀ n : Fin 256, byteOf (hexD.getD (n.val / 16) 0) (hexD.getD (n.val % 16) 0) = UInt8.ofNat n.val := by decide +kernel
theorem hex2_ok (c : UInt8) : (0 ≤ Go.Lib.indexByte hexD (hexD.getD (c.toNat / 16) 0) ∧ 0 ≤ Go.Lib.indexByte hexD (hexD.getD (c.toNat % 16) 0)) ∧ byteOf (hexD.getD (c.toNat / 16) 0) (hexD.getD (c.toNat % 16) 0) = c := by
  have hc := c.toNat_lt
  have h1 := hex_dig ⟨c.toNat / 16, by omega⟩
  have h2 := hex_dig ⟨c.toNat % 16, by omega⟩
  have h3 := pair_back1 ⟨c.toNat, hc⟩
  simp only [UInt8.ofNat_toNat] at h3
  refine ⟨⟨?_, ?_⟩, h3⟩
  · rw [show Go.Lib.indexByte hexD (hexD.getD (c.toNat / 16) 0) = ((c.toNat / 16 : Nat) : Int) from h1]; omega
  · rw [show Go.Lib.indexByte hexD (hexD.getD (c.toNat % 16) 0) = ((c.toNat % 16 : Nat) : Int) from h2]; omega
theorem unpair_back : ∀ t : Bs, unpairM (pairsM t) = some t
  | [] => rfl
  | c :: t => by
    obtain ⟨⟨h1, h2⟩, h3⟩ := hex2_ok c
    have : pairsM (c :: t) = hexD.getD (c.toNat / 16) 0 :: hexD.getD (c.toNat % 16) 0 :: pairsM t := rfl
    rw [this, unpairM, if_neg (by omega), unpair_back t, h3]
    rfl
theorem pairs_hex : ∀ (t : Bs), ∀ c ∈ pairsM t, 0 ≤ Go.Lib.indexByte hexD c
  | [], _, h => by cases h
  | x :: t, c, h => by
    obtain ⟨⟨h1, h2⟩, _⟩ := hex2_ok x
    rw [show pairsM (x :: t) = hexD.getD (x.toNat / 16) 0 :: hexD.getD (x.toNat % 16) 0 :: pairsM t from rfl] at h
    simp only [List.mem_cons] at h
    rcases h with rfl | rfl | h
    · exact h1
    · exact h2
    · exact pairs_hex t c h

theorem hexM_snoc : ∀ (x : Bs) (c : UInt8) (acc : Nat), hexM (x ++ [c]) acc = hexM x acc * 16 + (Go.Lib.indexByte hexD c).toNat
  | [], _, _ => rfl
  | d :: x, c, acc => by rw [List.cons_append, hexM, hexM, hexM_snoc x c]
theorem hex_back : ∀ (n b : Nat), b < 16 ^ n → hexM (hexN n b) 0 = b
  | 0, b, h => by
    have : b = 0 := by simpa using h
    subst this
    rfl
  | n + 1, b, h => by
    have h2 := hex_dig ⟨b % 16, Nat.mod_lt _ (by omega)⟩
    rw [hexN, hexM_snoc, hex_back n (b / 16) (by rw [Nat.pow_succ] at h; omega), show Go.Lib.indexByte hexD (hexD.getD (b % 16) 0) = ((b % 16 : Nat) : Int) from h2, Int.toNat_natCast]
    omega
theorem hexN_hex : ∀ (n b : Nat), ∀ c ∈ hexN n b, 0 ≤ Go.Lib.indexByte hexD c
  | 0, _, c, h => by cases h
  | n + 1, b, c, h => by
    rw [hexN, List.mem_append] at h
    rcases h with h | h
    · exact hexN_hex n _ c h
    · have h2 := hex_dig ⟨b % 16, Nat.mod_lt _ (by omega)⟩
      have hc : c = hexD.getD (b % 16) 0 := by simpa using h
      rw [hc, show Go.Lib.indexByte hexD (hexD.getD (b % 16) 0) = ((b % 16 : Nat) : Int) from h2]
      omega

theorem quoted_back {S : Bs} : ∀ (t : Bs) (f a : Nat) (o r : Bs), t.length < f → S.drop a = t.flatMap quoteOne ++ 34 :: r → quotedM S f a o = .ok (o ++ t) (a + (t.flatMap quoteOne).length + 1)
  | [], 0, _, _, _, h, _ => by simp at h
  | _ :: _, 0, _, _, _, h, _ => by simp at h
  | [], f + 1, a, o, r, _, h => by
    have h1 := (drop_one (show S.drop a = 34 :: r from h)).1
    rw [quotedM, h1]
    simp
  | c :: t, f + 1, a, o, r, hf, h => by
    have hf' : t.length < f := by simpa using hf
    rw [List.flatMap_cons, List.append_assoc] at h
    rw [List.flatMap_cons, List.length_append]
    unfold quoteOne at h ⊢
    by_cases h1 : c = 34 ∨ c = 92
    · rw [if_pos h1] at h ⊢
      obtain ⟨g1, g2⟩ := drop_one (show S.drop a = 92 :: (c :: (t.flatMap quoteOne ++ 34 :: r)) from h)
      obtain ⟨g3, g4⟩ := drop_one g2
      have ih := quoted_back t f (a + 2) (o ++ [c]) r hf' g4
      rw [quotedM, g1]
      rcases h1 with rfl | rfl
      · have hh : hasM S (a + 1) [34] = true := by unfold hasM; rw [g2]; rfl
        simp only [hh, if_true]
        rw [if_neg (by decide), if_neg (by decide), if_neg (by decide)]
        unfold quoteOne at ih
        rw [ih]
        simp only [List.append_assoc, List.singleton_append, List.length_cons, List.length_nil]
        congr 1
        omega
      · have hh0 : hasM S (a + 1) [34] = false := by unfold hasM; rw [g2]; rfl
        have hh : hasM S (a + 1) [92] = true := by unfold hasM; rw [g2]; rfl
        simp only [hh, hh0, if_true]
        rw [if_neg (by decide), if_neg (by decide), if_neg (by decide)]
        unfold quoteOne at ih
        rw [if_neg (by simp), ih]
        simp only [List.append_assoc, List.singleton_append, List.length_cons, List.length_nil]
        congr 1
        omega
    · rw [if_neg h1] at h ⊢
      by_cases h2 : c < 32 ∨ 126 < c
      · rw [if_pos h2] at h ⊢
        obtain ⟨⟨_, _⟩, q3⟩ := hex2_ok c
        obtain ⟨p1, p2⟩ := (hex2_ok c).1
        obtain ⟨g1, g2⟩ := drop_one (show S.drop a = 92 :: (120 :: (hexD.getD (c.toNat / 16) 0 :: hexD.getD (c.toNat % 16) 0 :: (t.flatMap quoteOne ++ 34 :: r))) from h)
        obtain ⟨g3, g4⟩ := drop_one g2
        obtain ⟨_, g5⟩ := drop_one g4
        obtain ⟨_, g6⟩ := drop_one g5
        have ih := quoted_back t f (a + 4) (o ++ [c]) r hf' g6
        have hh0 : hasM S (a + 1) [34] = false := by unfold hasM; rw [g2]; rfl
        have hh1 : hasM S (a + 1) [92] = false := by unfold hasM; rw [g2]; rfl
        have hh : hasM S (a + 1) [120] = true := by unfold hasM; rw [g2]; rfl
        have hu : unpairM ((S.drop (a + 2)).take 2) = some [c] := by
          rw [show a + 2 = a + 1 + 1 from rfl, g4]
          rw [show List.take 2 (hexD.getD (c.toNat / 16) 0 :: hexD.getD (c.toNat % 16) 0 :: (t.flatMap quoteOne ++ 34 :: r)) = [hexD.getD (c.toNat / 16) 0, hexD.getD (c.toNat % 16) 0] from rfl]
          rw [unpairM, if_neg (by omega), unpairM, q3]
          rfl
        rw [quotedM, g1]
        simp only [hh, hh0, hh1, hu, if_true]
        rw [if_neg (by decide), if_neg (by decide), if_neg (by decide), if_neg (by simp), if_neg (by simp), if_neg (by
          intro hx
          rcases h2 with h2 | h2
          · have h9 : c.toNat < 32 := by simpa [UInt8.lt_iff_toNat_lt] using h2
            have h8 : 32 ≤ c.toNat := by simpa [UInt8.le_iff_toNat_le] using hx.1
            omega
          · have h9 : 126 < c.toNat := by simpa [UInt8.lt_iff_toNat_lt] using h2
            have h8 : c.toNat ≤ 126 := by simpa [UInt8.le_iff_toNat_le] using hx.2
            omega)]
        unfold quoteOne at ih
        rw [ih]
        simp only [List.append_assoc, List.singleton_append, List.length_cons, List.length_nil, hex2]
        congr 1
        omega
      · rw [if_neg h2] at h ⊢
        obtain ⟨g1, g2⟩ := drop_one (show S.drop a = c :: (t.flatMap quoteOne ++ 34 :: r) from h)
        have ih := quoted_back t f (a + 1) (o ++ [c]) r hf' g2
        rw [quotedM, g1]
        simp only
        rw [if_neg (fun e => h1 (.inl e)), if_neg h2, if_pos (fun e => h1 (.inr e))]
        unfold quoteOne at ih
        rw [ih]
        simp only [List.append_assoc, List.singleton_append, List.length_cons, List.length_nil]
        congr 1
        omega
theorem has_ne {S : Bs} {a : Nat} {c t0 : UInt8} {x ts : Bs} (h : S.drop a = c :: x) (hne : (t0 == c) = false) : hasM S a (t0 :: ts) = false := by
  unfold hasM
  rw [h]
  simp [List.isPrefixOf, hne]
theorem has_yes {S : Bs} {a : Nat} {t x : Bs} (h : S.drop a = t ++ x) : hasM S a t = true := by
  unfold hasM
  rw [h]
  exact List.isPrefixOf_iff_prefix.2 ⟨x, rfl⟩
def headsL : Bs := [110, 116, 102, 123, 38, 35, 64, 37, 33, 91, 40, 34, 93, 41]
theorem dig_heads : ∀ d : Fin 10, ∀ t0 ∈ headsL, (t0 == UInt8.ofNat (48 + d.val)) = false := by decide
theorem sign_heads : ∀ t0 ∈ headsL, (t0 == (45 : UInt8)) = false := by decide
theorem dec_head (i : Int) : ∃ c x, dec i = c :: x ∧ ∀ t0 ∈ headsL, (t0 == c) = false := by
  unfold dec
  split
  · exact ⟨45, _, rfl, sign_heads⟩
  · cases h : decF 20 i.toNat with
    | nil => exact absurd h (decF_ne 19 _)
    | cons c x =>
      obtain ⟨d, rfl⟩ := decF_dig 20 i.toNat c (by rw [h]; simp)
      exact ⟨_, x, rfl, dig_heads d⟩
theorem len_zero {f : Fo} (h : f.len = 0) : f = .nil := by
  cases f with
  | nil => rfl
  | cons k i b t ks r => simp [Fo.len] at h
theorem fits_range {k i b : Int} {t : Bs} {n : Nat} (h : fitsM k i b t n = true) : 0 ≤ k ∧ k ≤ 13 := by
  simp only [fitsM, Bool.and_eq_true, decide_eq_true_eq] at h
  omega
theorem fits_cases {k i b : Int} {t : Bs} {n : Nat} (h : fitsM k i b t n = true) : k = 0 ∨ k = 1 ∨ k = 2 ∨ k = 3 ∨ k = 4 ∨ k = 5 ∨ k = 6 ∨ k = 7 ∨ k = 8 ∨ k = 9 ∨ k = 10 ∨ k = 11 ∨ k = 12 ∨ k = 13 := by
  have := fits_range h
  omega
theorem one_head {k i b : Int} {t kids : Bs} {n : Nat} (h : fitsM k i b t n = true) : ∃ c x, oneM k i b t kids = c :: x ∧ (93 == c) = false ∧ (41 == c) = false := by
  obtain ⟨c, x, hd, hc⟩ := dec_head i
  rcases fits_cases h with rfl | rfl | rfl | rfl | rfl | rfl | rfl | rfl | rfl | rfl | rfl | rfl | rfl | rfl
  · exact ⟨_, _, rfl, by decide, by decide⟩
  · exact ⟨c, x, by simpa [oneM] using hd, hc _ (by simp [headsL]), hc _ (by simp [headsL])⟩
  · exact ⟨_, _, rfl, by decide, by decide⟩
  · exact ⟨_, _, rfl, by decide, by decide⟩
  · exact ⟨_, _, rfl, by decide, by decide⟩
  · exact ⟨_, _, rfl, by decide, by decide⟩
  · by_cases hi : i = 1
    · exact ⟨116, [114, 117, 101], by simp [oneM, hi], by decide, by decide⟩
    · exact ⟨102, [97, 108, 115, 101], by simp [oneM, hi], by decide, by decide⟩
  · exact ⟨_, _, rfl, by decide, by decide⟩
  · exact ⟨_, _, rfl, by decide, by decide⟩
  · exact ⟨_, _, rfl, by decide, by decide⟩
  · exact ⟨_, _, rfl, by decide, by decide⟩
  · exact ⟨_, _, rfl, by decide, by decide⟩
  · exact ⟨_, _, rfl, by decide, by decide⟩
  · exact ⟨_, _, rfl, by decide, by decide⟩

def RowB (rest : Fo) : Prop := ∀ (S : Bs) (f deep a : Nat) (e : Bs) (acc : Fo) (r : Bs), (e = [93] ∨ e = [41]) → rest.wt + 1 ≤ f → deep + hiF rest ≤ 16 → rightM rest = true → rest.plain →
  S.drop a = rowP (acc.len == 0) rest ++ (e ++ r) → rowM S f deep a e acc = .ok (acc.app rest) (a + (rowP (acc.len == 0) rest).length + 1)

set_option maxRecDepth 10000 in
set_option maxHeartbeats 2000000 in
theorem value_back {k i b : Int} {t : Bs} {kids : Fo} (hk : RowB kids) {S : Bs} {f deep a : Nat} {r : Bs} (hf : 4 * t.length + 100 + kids.wt ≤ f) (hd : deep + 1 + hiF kids ≤ 16) (hfit : fitsM k i b t kids.len = true) (hr : rightM kids = true)
    (hn : ((0 ≤ b ∧ b < 18446744073709551616) ∧ -9223372036854775808 ≤ i ∧ i ≤ 9223372036854775807) ∧ kids.plain) (he : Ends r) (h : S.drop a = oneM k i b t (rowP true kids) ++ r) :
    valueM S f deep a = .ok ⟨k, i, b, t, kids⟩ (a + (oneM k i b t (rowP true kids)).length) := by
  obtain ⟨⟨⟨hb0, hb1⟩, hi0, hi1⟩, hkr⟩ := hn
  cases f with
  | zero => omega
  | succ f =>
  rw [valueM, if_neg (by omega)]
  rcases fits_cases hfit with rfl | rfl | rfl | rfl | rfl | rfl | rfl | rfl | rfl | rfl | rfl | rfl | rfl | rfl
  · -- nil
    simp [fitsM] at hfit
    obtain ⟨⟨⟨⟨rfl, rfl⟩, rfl⟩, _⟩, hl⟩ := hfit
    obtain rfl := len_zero hl
    rw [if_pos (has_yes (t := [110, 105, 108]) (x := r) h)]
    rfl
  · -- int
    simp [fitsM] at hfit
    obtain ⟨⟨⟨rfl, rfl⟩, _⟩, hl⟩ := hfit
    obtain rfl := len_zero hl
    have ho : ∀ kk, oneM 1 i 0 [] kk = dec i := fun _ => rfl
    rw [ho] at h ⊢
    obtain ⟨c, x, hdx, hc⟩ := dec_head i
    have h' : S.drop a = c :: (x ++ r) := by rw [h, hdx]; rfl
    have hh : ∀ t0 ts, t0 ∈ headsL → hasM S a (t0 :: ts) = false := fun t0 ts ht => has_ne h' (hc t0 ht)
    obtain ⟨g1, g2⟩ := number_back h he hi0 hi1
    simp only [hh 110 _ (by decide), hh 116 _ (by decide), hh 102 _ (by decide), hh 123 _ (by decide), hh 38 _ (by decide), hh 35 _ (by decide), hh 64 _ (by decide), hh 37 _ (by decide), hh 33 _ (by decide), hh 91 _ (by decide), hh 40 _ (by decide), hh 34 _ (by decide), Bool.false_eq_true, if_false, g1, g2]
  · -- key
    simp [fitsM] at hfit
    obtain ⟨⟨⟨rfl, rfl⟩, _⟩, hl⟩ := hfit
    obtain rfl := len_zero hl
    have ho : ∀ kk, oneM 2 i 0 [] kk = 35 :: dec i := fun _ => rfl
    rw [ho] at h ⊢
    have h' : S.drop a = 35 :: (dec i ++ r) := h
    have hh : ∀ t0 ts, (t0 == (35 : UInt8)) = false → hasM S a (t0 :: ts) = false := fun t0 ts ht => has_ne h' ht
    have hy : hasM S a [35] = true := has_yes (x := dec i ++ r) h'
    obtain ⟨g1, g2⟩ := number_back (drop_one h').2 he hi0 hi1
    simp only [hh 110 _ (by decide), hh 116 _ (by decide), hh 102 _ (by decide), hh 123 _ (by decide), hh 38 _ (by decide), hy, Bool.false_eq_true, if_false, if_true, g1, g2, List.length_cons]
    congr 1
    omega
  · -- float
    simp [fitsM] at hfit
    obtain ⟨⟨⟨rfl, rfl⟩, _⟩, hl⟩ := hfit
    obtain rfl := len_zero hl
    have ho : ∀ kk, oneM 3 0 b [] kk = 102 :: hexN 16 b.toNat := fun _ => rfl
    rw [ho] at h ⊢
    have h' : S.drop a = 102 :: (hexN 16 b.toNat ++ r) := by rw [h, List.cons_append]
    have hh : ∀ t0 ts, (t0 == (102 : UInt8)) = false → hasM S a (t0 :: ts) = false := fun t0 ts ht => has_ne h' ht
    have hy : hasM S a [102] = true := has_yes (x := hexN 16 b.toNat ++ r) h'
    have hln := hexN_len 16 b.toNat
    have hfal : hasM S a [102, 97, 108, 115, 101] = false := by
      unfold hasM
      rw [h']
      rcases hx : hexN 16 b.toNat with _ | ⟨c1, _ | ⟨c2, y⟩⟩
      · rw [hx] at hln; simp at hln
      · rw [hx] at hln; simp at hln
      · have h2 := hexN_hex 16 b.toNat c2 (by rw [hx]; simp)
        have : ((108 : UInt8) == c2) = false := by
          cases hc : ((108 : UInt8) == c2)
          · rfl
          · rw [beq_iff_eq] at hc
            rw [← hc] at h2
            exact absurd h2 (by decide)
        simp [List.isPrefixOf, this]
    have hw : whileM S (a + 1) hexD = 16 := by
      unfold whileM
      rw [(drop_one h').2, run_app _ _ (hexN_hex 16 _) he, hln]
    have ht : (S.drop (a + 1)).take 16 = hexN 16 b.toNat := by
      rw [(drop_one h').2]
      exact List.take_left' hln
    have hbb := hex_back 16 b.toNat (by have : (16 : Nat) ^ 16 = 18446744073709551616 := by decide
                                        omega)
    simp only [hh 110 _ (by decide), hh 116 _ (by decide), hfal, hh 123 _ (by decide), hh 38 _ (by decide), hh 35 _ (by decide), hy, Bool.false_eq_true, if_false, if_true, hw, ht, hbb, List.length_cons, hln]
    congr 1
    · rw [show ((b.toNat : Nat) : Int) = b by omega]
  · -- text
    simp [fitsM] at hfit
    obtain ⟨⟨⟨rfl, rfl⟩, _⟩, hl⟩ := hfit
    obtain rfl := len_zero hl
    have ho : ∀ kk, oneM 4 0 0 t kk = quoteM t := fun _ => rfl
    rw [ho] at h ⊢
    have h' : S.drop a = 34 :: (t.flatMap quoteOne ++ 34 :: r) := by rw [h]; simp [quoteM]
    have hh : ∀ t0 ts, (t0 == (34 : UInt8)) = false → hasM S a (t0 :: ts) = false := fun t0 ts ht => has_ne h' ht
    have hy : hasM S a [34] = true := has_yes (x := t.flatMap quoteOne ++ 34 :: r) h'
    have hq := quoted_back t f (a + 1) [] r (by omega) (drop_one h').2
    simp only [hh 110 _ (by decide), hh 116 _ (by decide), hh 102 _ (by decide), hh 123 _ (by decide), hh 38 _ (by decide), hh 35 _ (by decide), hh 64 _ (by decide), hh 37 _ (by decide), hh 33 _ (by decide), hh 91 _ (by decide), hh 40 _ (by decide), hy, Bool.false_eq_true, if_false, if_true, hq, List.nil_append]
    congr 1
    simp only [quoteM, List.length_cons, List.length_append, List.length_nil]
    omega
  · -- name
    simp [fitsM] at hfit
    obtain ⟨⟨⟨rfl, rfl⟩, _⟩, hl⟩ := hfit
    obtain rfl := len_zero hl
    have ho : ∀ kk, oneM 5 0 0 t kk = 64 :: quoteM t := fun _ => rfl
    rw [ho] at h ⊢
    have h' : S.drop a = 64 :: (34 :: (t.flatMap quoteOne ++ 34 :: r)) := by rw [h]; simp [quoteM]
    have hh : ∀ t0 ts, (t0 == (64 : UInt8)) = false → hasM S a (t0 :: ts) = false := fun t0 ts ht => has_ne h' ht
    have hy : hasM S a [64] = true := has_yes (x := 34 :: (t.flatMap quoteOne ++ 34 :: r)) h'
    have h1 := (drop_one h').2
    have hy1 : hasM S (a + 1) [34] = true := has_yes (x := t.flatMap quoteOne ++ 34 :: r) h1
    have hq := quoted_back t f (a + 2) [] r (by omega) (drop_one h1).2
    simp only [hh 110 _ (by decide), hh 116 _ (by decide), hh 102 _ (by decide), hh 123 _ (by decide), hh 38 _ (by decide), hh 35 _ (by decide), hy, hy1, Bool.false_eq_true, if_false, if_true, hq, List.nil_append]
    congr 1
    simp only [quoteM, List.length_cons, List.length_append, List.length_nil]
    omega
  · -- bool
    simp [fitsM] at hfit
    obtain ⟨⟨⟨⟨hi, rfl⟩, rfl⟩, _⟩, hl⟩ := hfit
    obtain rfl := len_zero hl
    rcases hi with rfl | rfl
    · have h' : S.drop a = [102, 97, 108, 115, 101] ++ r := h
      have hh : ∀ t0 ts, (t0 == (102 : UInt8)) = false → hasM S a (t0 :: ts) = false := fun t0 ts ht => has_ne h' ht
      simp only [hh 110 _ (by decide), hh 116 _ (by decide), has_yes h', Bool.false_eq_true, if_false, if_true]
      rfl
    · have h' : S.drop a = [116, 114, 117, 101] ++ r := h
      have hh : ∀ t0 ts, (t0 == (116 : UInt8)) = false → hasM S a (t0 :: ts) = false := fun t0 ts ht => has_ne h' ht
      simp only [hh 110 _ (by decide), has_yes h', Bool.false_eq_true, if_false, if_true]
      rfl
  · -- bytes
    simp [fitsM] at hfit
    obtain ⟨⟨⟨rfl, rfl⟩, _⟩, hl⟩ := hfit
    obtain rfl := len_zero hl
    have ho : ∀ kk, oneM 7 0 0 t kk = 37 :: pairsM t := fun _ => rfl
    rw [ho] at h ⊢
    have h' : S.drop a = 37 :: (pairsM t ++ r) := h
    have hh : ∀ t0 ts, (t0 == (37 : UInt8)) = false → hasM S a (t0 :: ts) = false := fun t0 ts ht => has_ne h' ht
    have hy : hasM S a [37] = true := has_yes (x := pairsM t ++ r) h'
    have hw : whileM S (a + 1) hexD = (pairsM t).length := by
      unfold whileM
      rw [(drop_one h').2, run_app _ _ (pairs_hex t) he]
    have ht : (S.drop (a + 1)).take (pairsM t).length = pairsM t := by
      rw [(drop_one h').2]
      simp
    simp only [hh 110 _ (by decide), hh 116 _ (by decide), hh 102 _ (by decide), hh 123 _ (by decide), hh 38 _ (by decide), hh 35 _ (by decide), hh 64 _ (by decide), hy, Bool.false_eq_true, if_false, if_true, hw, ht, unpair_back, List.length_cons]
    congr 1
    omega
  · -- list
    simp [fitsM] at hfit
    obtain ⟨⟨⟨rfl, rfl⟩, rfl⟩⟩ := hfit
    have ho : oneM 8 0 0 [] (rowP true kids) = 91 :: (rowP true kids ++ [93]) := rfl
    rw [ho] at h ⊢
    have h' : S.drop a = 91 :: (rowP true kids ++ ([93] ++ r)) := by rw [h]; simp
    have hh : ∀ t0 ts, (t0 == (91 : UInt8)) = false → hasM S a (t0 :: ts) = false := fun t0 ts ht => has_ne h' ht
    have hy : hasM S a [91] = true := has_yes (x := rowP true kids ++ ([93] ++ r)) h'
    have hq := hk S f (deep + 1) (a + 1) [93] .nil r (.inl rfl) (by omega) (by omega) hr hkr (drop_one h').2
    simp only [hh 110 _ (by decide), hh 116 _ (by decide), hh 102 _ (by decide), hh 123 _ (by decide), hh 38 _ (by decide), hh 35 _ (by decide), hh 64 _ (by decide), hh 37 _ (by decide), hh 33 _ (by decide), hy, Bool.false_eq_true, if_false, if_true, hq, Fo.app]
    congr 1
    simp only [List.length_cons, List.length_append, List.length_nil, show ((Fo.nil.len == 0) = true) from rfl]
    omega
  · -- pair
    simp [fitsM] at hfit
    obtain ⟨⟨⟨⟨rfl, rfl⟩, rfl⟩, _⟩, _⟩ := hfit
    have ho : oneM 9 0 0 [] (rowP true kids) = 40 :: (rowP true kids ++ [41]) := rfl
    rw [ho] at h ⊢
    have h' : S.drop a = 40 :: (rowP true kids ++ ([41] ++ r)) := by rw [h]; simp
    have hh : ∀ t0 ts, (t0 == (40 : UInt8)) = false → hasM S a (t0 :: ts) = false := fun t0 ts ht => has_ne h' ht
    have hy : hasM S a [40] = true := has_yes (x := rowP true kids ++ ([41] ++ r)) h'
    have hq := hk S f (deep + 1) (a + 1) [41] .nil r (.inr rfl) (by omega) (by omega) hr hkr (drop_one h').2
    simp only [hh 110 _ (by decide), hh 116 _ (by decide), hh 102 _ (by decide), hh 123 _ (by decide), hh 38 _ (by decide), hh 35 _ (by decide), hh 64 _ (by decide), hh 37 _ (by decide), hh 33 _ (by decide), hh 91 _ (by decide), hy, Bool.false_eq_true, if_false, if_true, hq, Fo.app]
    congr 1
    simp only [List.length_cons, List.length_append, List.length_nil, show ((Fo.nil.len == 0) = true) from rfl]
    omega
  · -- err
    simp [fitsM] at hfit
    obtain ⟨⟨rfl, _⟩, hl⟩ := hfit
    obtain rfl := len_zero hl
    have ho : ∀ kk, oneM 10 i 0 t kk = 33 :: (dec i ++ quoteM t) := fun _ => rfl
    rw [ho] at h ⊢
    have h' : S.drop a = 33 :: (dec i ++ 34 :: (t.flatMap quoteOne ++ 34 :: r)) := by rw [h]; simp [quoteM]
    have hh : ∀ t0 ts, (t0 == (33 : UInt8)) = false → hasM S a (t0 :: ts) = false := fun t0 ts ht => has_ne h' ht
    have hy : hasM S a [33] = true := has_yes (x := dec i ++ 34 :: (t.flatMap quoteOne ++ 34 :: r)) h'
    have h1 := (drop_one h').2
    obtain ⟨g1, g2⟩ := number_back h1 (ends_cons (by decide)) hi0 hi1
    have h2 := drop_app h1
    have hy1 : hasM S (a + 1 + (dec i).length) [34] = true := has_yes (x := t.flatMap quoteOne ++ 34 :: r) h2
    have hq := quoted_back t f (a + 1 + (dec i).length + 1) [] r (by omega) (drop_one h2).2
    simp only [hh 110 _ (by decide), hh 116 _ (by decide), hh 102 _ (by decide), hh 123 _ (by decide), hh 38 _ (by decide), hh 35 _ (by decide), hh 64 _ (by decide), hh 37 _ (by decide), hy, hy1, Bool.false_eq_true, if_false, if_true, g1, g2, hq, List.nil_append]
    congr 1
    simp only [quoteM, List.length_cons, List.length_append, List.length_nil]
    omega
  · -- ptr
    simp [fitsM] at hfit
    obtain ⟨⟨⟨⟨_, rfl⟩, rfl⟩, _⟩, _⟩ := hfit
    have ho : oneM 11 i 0 [] (rowP true kids) = 38 :: (dec i ++ 40 :: (rowP true kids ++ [41])) := rfl
    rw [ho] at h ⊢
    have h' : S.drop a = 38 :: (dec i ++ 40 :: (rowP true kids ++ ([41] ++ r))) := by rw [h]; simp
    have hh : ∀ t0 ts, (t0 == (38 : UInt8)) = false → hasM S a (t0 :: ts) = false := fun t0 ts ht => has_ne h' ht
    have hy : hasM S a [38] = true := has_yes (x := dec i ++ 40 :: (rowP true kids ++ ([41] ++ r))) h'
    have h1 := (drop_one h').2
    obtain ⟨c, x, hdx, hc⟩ := dec_head i
    have hnl : hasM S a [38, 110, 105, 108] = false := by
      unfold hasM
      rw [h', hdx]
      simp [List.isPrefixOf, hc 110 (by decide)]
    obtain ⟨g1, g2⟩ := number_back h1 (ends_cons (by decide)) hi0 hi1
    have h2 := drop_app h1
    have hy1 : hasM S (a + 1 + (dec i).length) [40] = true := has_yes (x := rowP true kids ++ ([41] ++ r)) h2
    have hq := hk S f (deep + 1) (a + 1 + (dec i).length + 1) [41] .nil r (.inr rfl) (by omega) (by omega) hr hkr (drop_one h2).2
    simp only [hh 110 _ (by decide), hh 116 _ (by decide), hh 102 _ (by decide), hh 123 _ (by decide), hnl, hh 35 _ (by decide), hh 64 _ (by decide), hh 37 _ (by decide), hh 33 _ (by decide), hy, hy1, Bool.false_eq_true, if_false, if_true, g1, g2, hq, Fo.app]
    congr 1
    simp only [List.length_cons, List.length_append, List.length_nil, show ((Fo.nil.len == 0) = true) from rfl]
    omega
  · -- noptr
    simp [fitsM] at hfit
    obtain ⟨⟨⟨⟨rfl, rfl⟩, rfl⟩, _⟩, hl⟩ := hfit
    obtain rfl := len_zero hl
    have h' : S.drop a = [38, 110, 105, 108] ++ r := h
    have hh : ∀ t0 ts, (t0 == (38 : UInt8)) = false → hasM S a (t0 :: ts) = false := fun t0 ts ht => has_ne h' ht
    simp only [hh 110 _ (by decide), hh 116 _ (by decide), hh 102 _ (by decide), hh 123 _ (by decide), has_yes h', Bool.false_eq_true, if_false, if_true]
    rfl
  · -- unit
    simp [fitsM] at hfit
    obtain ⟨⟨⟨⟨rfl, rfl⟩, rfl⟩, _⟩, hl⟩ := hfit
    obtain rfl := len_zero hl
    have h' : S.drop a = [123, 125] ++ r := h
    have hh : ∀ t0 ts, (t0 == (123 : UInt8)) = false → hasM S a (t0 :: ts) = false := fun t0 ts ht => has_ne h' ht
    simp only [hh 110 _ (by decide), hh 116 _ (by decide), hh 102 _ (by decide), has_yes h', Bool.false_eq_true, if_false, if_true]
    rfl

theorem ends_end {e r : Bs} (he : e = [93] ∨ e = [41]) : Ends (e ++ r) := by
  rcases he with rfl | rfl
  · exact ends_cons (by decide)
  · exact ends_cons (by decide)
theorem row_back : ∀ rest : Fo, RowB rest
  | .nil => fun S f deep a e acc r he hf _ _ _ h => by
    cases f with
    | zero => omega
    | succ f =>
    have h' : S.drop a = e ++ r := h
    rw [rowM, if_pos (has_yes h'), Fo.app_nil]
    rcases he with rfl | rfl <;> rfl
  | .cons k i b t kids rest => fun S f deep a e acc r he hf hd hr hn h => by
    cases f with
    | zero => omega
    | succ f =>
    simp only [Fo.wt] at hf
    simp only [hiF] at hd
    simp only [rightM, Bool.and_eq_true] at hr
    obtain ⟨hn1, hn2, hn3⟩ := hn
    obtain ⟨⟨hfit, hrk⟩, hrr⟩ := hr
    obtain ⟨c, x, hox, hc1, hc2⟩ := one_head (kids := rowP true kids) hfit
    have hne : ∀ {a' : Nat} {y : Bs}, S.drop a' = oneM k i b t (rowP true kids) ++ y → hasM S a' e = false := by
      intro a' y hy
      rw [hox] at hy
      rcases he with rfl | rfl
      · exact has_ne hy hc1
      · exact has_ne hy hc2
    have hends : Ends (rowP false rest ++ (e ++ r)) := by
      cases rest with
      | nil => show Ends (e ++ r); exact ends_end he
      | cons k2 i2 b2 t2 ks2 r2 => exact ends_cons (by decide)
    have hacc : ((acc.app (Dt.fo ⟨k, i, b, t, kids⟩)).len == 0) = false := by
      rw [Fo.len_app, show (Dt.fo ⟨k, i, b, t, kids⟩).len = 1 from rfl]
      simp
    have happ : (acc.app (Dt.fo ⟨k, i, b, t, kids⟩)).app rest = acc.app (.cons k i b t kids rest) := by rw [Fo.app_assoc]; rfl
    rw [rowM]
    by_cases ha : acc.len = 0
    · have ha' : (acc.len == 0) = true := by rw [ha]; rfl
      rw [ha'] at h ⊢
      have h' : S.drop a = oneM k i b t (rowP true kids) ++ (rowP false rest ++ (e ++ r)) := by rw [h]; simp [rowP]
      have hv := value_back (row_back kids) (f := f) (deep := deep) (by omega) (by omega) hfit hrk ⟨hn1, hn2⟩ hends h'
      have hq := row_back rest S f deep (a + (oneM k i b t (rowP true kids)).length) e (acc.app (Dt.fo ⟨k, i, b, t, kids⟩)) r he (by omega) (by omega) hrr hn3 (by rw [hacc]; exact drop_app h')
      rw [if_neg (by rw [hne h']; simp), if_pos ha, hv]
      show rowM S f deep _ e (acc.app (Dt.fo ⟨k, i, b, t, kids⟩)) = _
      rw [hq, happ, hacc]
      simp only [rowP, List.length_append, if_true, List.length_nil]
      congr 1
      omega
    · have ha' : (acc.len == 0) = false := by simpa using ha
      rw [ha'] at h ⊢
      have h' : S.drop a = 44 :: (32 :: (oneM k i b t (rowP true kids) ++ (rowP false rest ++ (e ++ r)))) := by rw [h]; simp [rowP]
      have h2 := (drop_one (drop_one h').2).2
      have hv := value_back (row_back kids) (f := f) (deep := deep) (by omega) (by omega) hfit hrk ⟨hn1, hn2⟩ hends h2
      have hq := row_back rest S f deep (a + 1 + 1 + (oneM k i b t (rowP true kids)).length) e (acc.app (Dt.fo ⟨k, i, b, t, kids⟩)) r he (by omega) (by omega) hrr hn3 (by rw [hacc]; exact drop_app h2)
      have hne2 : hasM S a e = false := by
        rcases he with rfl | rfl
        · exact has_ne h' (by decide)
        · exact has_ne h' (by decide)
      rw [if_neg (by rw [hne2]; simp), if_neg ha, if_pos (has_yes (t := [44, 32]) h'), hv]
      show rowM S f deep _ e (acc.app (Dt.fo ⟨k, i, b, t, kids⟩)) = _
      rw [hq, happ, hacc]
      simp only [rowP, List.length_append, Bool.false_eq_true, if_false, List.length_cons, List.length_nil]
      congr 1
      omega

/-- what is printed reads back as it was -/
theorem print_back {d : Dt} (h : okD d) (hn : d.fo.plain) {f : Nat} (hf : d.fo.wt ≤ f) : valueM (printM d) f 0 0 = .ok d (printM d).length := by
  obtain ⟨_, h2, h3⟩ := h
  rw [right_fo, Bool.and_eq_true] at h3
  have hw : d.fo.wt = 4 * d.t.length + 110 + d.l.wt + 0 := rfl
  have := value_back (row_back d.l) (k := d.k) (i := d.i) (b := d.b) (t := d.t) (S := printM d) (f := f) (deep := 0) (a := 0) (r := []) (by omega) (by omega) h3.1 h3.2 ⟨hn.1, hn.2.1⟩ Ends.nil (by simp [printM])
  rw [this]
  simp [printM]
/-- unlike values, unlike texts -/
theorem print_inj {d e : Dt} (hd : okD d) (hnd : d.fo.plain) (he : okD e) (hne : e.fo.plain) (h : printM d = printM e) : d = e := by
  have h1 := print_back hd hnd (f := d.fo.wt + e.fo.wt) (by omega)
  have h2 := print_back he hne (f := d.fo.wt + e.fo.wt) (by omega)
  rw [h, h2] at h1
  injection h1 with h1
  exact h1.symm
end Go.Proofs.YtofpdhkdnbnobaaDoor
