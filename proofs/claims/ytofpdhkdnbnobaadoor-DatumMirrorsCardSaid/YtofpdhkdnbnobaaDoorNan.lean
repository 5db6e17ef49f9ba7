/-
  The law's nan (walk); a NaN is what is not equal to itself (plain). Not a statement of the seat.
-/
import Derived.Test.YtofpdhkdnbnobaaDoorKeyN
namespace Go.Proofs.YtofpdhkdnbnobaaDoor
open Go.RowKit

/-- is a NaN, by its bits -/
def nanI (b : Int) : Bool := bits .and .u64 b 9218868437227405312 == 9218868437227405312 && bits .and .u64 b 4503599627370495 != 0
theorem bits_and (b : Int) (h0 : 0 ≤ b) (h1 : b < 18446744073709551616) (m : Nat) (hm : m < 18446744073709551616) : bits .and .u64 b (m : Int) = ((b.toNat &&& m : Nat) : Int) := by
  obtain ⟨n, rfl⟩ : ∃ n : Nat, b = (n : Int) := ⟨b.toNat, by omega⟩
  have hn : n < 18446744073709551616 := by omega
  unfold bits
  show IntKind.u64.wrap (((BitVec.ofInt 64 (n : Int)) &&& (BitVec.ofInt 64 (m : Int))).toNat : Int) = _
  rw [BitVec.toNat_and, BitVec.ofInt_natCast, BitVec.ofInt_natCast, BitVec.toNat_ofNat, BitVec.toNat_ofNat, Nat.mod_eq_of_lt hn, Nat.mod_eq_of_lt hm]
  have h2 : n &&& m ≤ n := Nat.and_le_left
  show (((n &&& m : Nat) : Int)) % 18446744073709551616 = _
  rw [Int.toNat_natCast]
  omega
theorem and_exp (n : Nat) : n &&& 9218868437227405312 = (n / 4503599627370496 % 2048) * 4503599627370496 := by
  have h1 : (n &&& 9218868437227405312) / 2 ^ 52 = n / 2 ^ 52 % 2 ^ 11 := by
    rw [Nat.and_div_two_pow]
    show (n / 2 ^ 52) &&& (2 ^ 11 - 1) = _
    rw [Nat.and_two_pow_sub_one_eq_mod]
  have h2 : (n &&& 9218868437227405312) % 2 ^ 52 = 0 := by
    rw [Nat.and_mod_two_pow]
    show (n % 2 ^ 52) &&& 0 = 0
    exact Nat.and_zero _
  have h3 := Nat.div_add_mod (n &&& 9218868437227405312) (2 ^ 52)
  rw [h1, h2] at h3
  omega
theorem and_frac (n : Nat) : n &&& 4503599627370495 = n % 4503599627370496 := Nat.and_two_pow_sub_one_eq_mod n 52
theorem nan_eq (b : Int) (h0 : 0 ≤ b) (h1 : b < 18446744073709551616) : nanI b = nanB b := by
  have e1 := bits_and b h0 h1 9218868437227405312 (by omega)
  have e2 := bits_and b h0 h1 4503599627370495 (by omega)
  rw [and_exp] at e1
  rw [and_frac] at e2
  have hn : b.toNat < 18446744073709551616 := by omega
  unfold nanI
  rw [show (9218868437227405312 : Int) = ((9218868437227405312 : Nat) : Int) from rfl, show (4503599627370495 : Int) = ((4503599627370495 : Nat) : Int) from rfl, e1, e2]
  unfold nanB
  generalize b.toNat = n at *
  clear e1 e2 h0 h1
  show _ = (Ieee.Format.read Ieee.double n).isNaN
  unfold Ieee.Format.read
  simp only [show Ieee.Format.signWeight Ieee.double = 9223372036854775808 from rfl, show Ieee.Format.binade Ieee.double = 4503599627370496 from rfl, show Ieee.Format.infRung Ieee.double = 9218868437227405312 from rfl]
  by_cases c1 : n % 9223372036854775808 < 4503599627370496
  · rw [if_pos c1]
    have : n / 4503599627370496 % 2048 = 0 := by omega
    rw [this]
    rfl
  · rw [if_neg c1]
    by_cases c2 : n % 9223372036854775808 < 9218868437227405312
    · rw [if_pos c2]
      have : ¬ n / 4503599627370496 % 2048 = 2047 := by omega
      have h : ((((n / 4503599627370496 % 2048) * 4503599627370496 : Nat) : Int) == ((9218868437227405312 : Nat) : Int)) = false := by
        rw [beq_eq_false_iff_ne]
        omega
      rw [h]
      rfl
    · rw [if_neg c2]
      have he : n / 4503599627370496 % 2048 = 2047 := by omega
      rw [he]
      by_cases c3 : n % 9223372036854775808 = 9218868437227405312
      · rw [if_pos c3]
        have : n % 4503599627370496 = 0 := by omega
        rw [this]
        rfl
      · rw [if_neg c3]
        have h : ((((n % 4503599627370496 : Nat) : Int)) != 0) = true := by
          rw [bne_iff_ne]
          omega
        rw [h]
        rfl
def nanOne (k b : Int) (p : Bool) : Bool := if k = 3 then nanI b else k == 9 && p
/-- of a row: any of it -/
def nanF : Fo → Bool
  | .nil => false
  | .cons k _ b _ ks r => nanOne k b (nanF ks) || nanF r
def NNOK (kids : Fo) : Prop := ∀ (k i b : Int) (t : Bs) (l : Option Addr) (n c : Nat) (S : Nat → Prop) (w : World), FoAt S w kids l n c → (∀ x, S x → x < w.heap.size) → (k = 9 → kids.len = 2) → shapeF kids →
  Calls Tryd.prog 31 #[.agg #[.int .i64 k, .int .i64 i, .int .u64 b, .string ⟨t.toArray⟩, .slice l n c]] w (fun e w' => e = .returned (.bool (nanOne k b (nanF kids))) ∧ Below w.heap.size w w')

set_option maxRecDepth 100000 in
set_option maxHeartbeats 8000000 in
theorem nanN {kids : Fo} (hall : kids.All NNOK) : NNOK kids := by
  intro k i b t l n c S w hF hS h9 hsh
  have hA := Blk.new w #[.int .i64 k, .int .i64 i, .int .u64 b, .string ⟨t.toArray⟩, .slice l n c] 25
  have hB : Below w.heap.size w (w.alloc (.cells #[.int .i64 k, .int .i64 i, .int .u64 b, .string ⟨t.toArray⟩, .slice l n c] 25)) := (Below.refl _ w).alloc (Nat.le_refl _) _
  have HF := Lib.hid (hF.same (w' := w.alloc (.cells #[.int .i64 k, .int .i64 i, .int .u64 b, .string ⟨t.toArray⟩, .slice l n c] 25)) (fun x hx hlt => hB.block x hlt) (fun x hx _ => hx))
  have HS := Lib.hid hS
  have HALL := Lib.hid hall
  have H9 := Lib.hid h9
  have HSH := Lib.hid hsh
  clear hF hS hall h9 hsh
  go_enter Tryd.func31, Tryd.ntmps31
  go_upto_region 1 with (fail)
  generalize w.alloc (.cells #[.int .i64 k, .int .i64 i, .int .u64 b, .string ⟨t.toArray⟩, .slice l n c] 25) = w1 at *
  obtain ⟨p, hp⟩ : ∃ p, p = w.heap.size := ⟨_, rfl⟩
  rw [← hp] at hA
  rw [← hp]
  have HB := Lib.hid hB
  have x0 := hA.cell 0 rfl
  have x2 := hA.cell 2 rfl
  have x4 := hA.cell 4 rfl
  clear hA hB hp
  by_cases hk9 : k = 9
  · subst hk9
    obtain ⟨k1, i1, b1, t1, ks1, k2, i2, b2, t2, ks2, rfl⟩ := two_kids (H9.out rfl)
    obtain ⟨bb, off, a1, n1, cp1, rfl, hkF1, e0, e1, e2, e3, e4, _, hjn⟩ := FoAt.elem (dn := .nil) HF.out
    obtain ⟨_, _, a2, n2, cp2, e, hkF2, f0, f1, f2, f3, f4, _, hjn2⟩ := FoAt.elem (dn := .cons k1 i1 b1 t1 ks1 .nil) HF.out
    cases e
    replace hjn : 0 < n := hjn
    replace hjn2 : 1 < n := hjn2
    have hz0 : (0 : Int) < (n : Int) := by have : (0 : Nat) < n := hjn; omega
    have hz1 : (1 : Int) < (n : Int) := by have : (1 : Nat) < n := hjn2; omega
    have hal := HALL.out
    have hsh := HSH.out
    have HC1 := Lib.hid (hal.1 k1 i1 b1 t1 a1 n1 cp1 S w1 hkF1 (fun x hx2 => Nat.lt_of_lt_of_le (HS.out x hx2) HB.out.size) hsh.1.1 hsh.2.1)
    have HC2 := Lib.hid (fun (wx : World) (hx : Below w1.heap.size w1 wx) => hal.2.1 k2 i2 b2 t2 a2 n2 cp2 S wx (hkF2.same (w' := wx) (fun x _ hlt => hx.block x hlt) (fun x hx2 _ => hx2)) (fun x hx2 => Nat.lt_of_lt_of_le (HS.out x hx2) (Nat.le_trans HB.out.size hx.size)) hsh.2.2.1.1 hsh.2.2.2.1)
    have hkk : nanOne 9 b (nanF (.cons k1 i1 b1 t1 ks1 (.cons k2 i2 b2 t2 ks2 .nil))) = (nanOne k1 b1 (nanF ks1) || nanOne k2 b2 (nanF ks2)) := by simp [nanOne, nanF]
    have HKK := Lib.hid hkk
    generalize nanOne k1 b1 (nanF ks1) = r1 at *
    generalize nanOne k2 b2 (nanF ks2) = r2 at *
    replace e0 : w1.cell? ⟨bb, off, none⟩ = some (.int .i64 k1) := e0
    replace e1 : w1.cell? ⟨bb, off + 1, none⟩ = some (.int .i64 i1) := e1
    replace e2 : w1.cell? ⟨bb, off + 2, none⟩ = some (.int .u64 b1) := e2
    replace e3 : w1.cell? ⟨bb, off + 3, none⟩ = some (.string ⟨t1.toArray⟩) := e3
    replace e4 : w1.cell? ⟨bb, off + 4, none⟩ = some (.slice a1 n1 cp1) := e4
    replace f0 : w1.cell? ⟨bb, off + 5, none⟩ = some (.int .i64 k2) := f0
    replace f1 : w1.cell? ⟨bb, off + 6, none⟩ = some (.int .i64 i2) := f1
    replace f2 : w1.cell? ⟨bb, off + 7, none⟩ = some (.int .u64 b2) := f2
    replace f3 : w1.cell? ⟨bb, off + 8, none⟩ = some (.string ⟨t2.toArray⟩) := f3
    replace f4 : w1.cell? ⟨bb, off + 9, none⟩ = some (.slice a2 n2 cp2) := f4
    clear hkF1 hkF2 hal hsh H9 HSH HALL HF hkk
    cases r1
    · go_wp2_with (first
        | (go_at_call 31; (with_reducible refine HC1.out.mono ?_); rintro eA wA ⟨rfl, hbA⟩; have HA := Lib.hid hbA; have x4' := cellAt hbA x4; have f0' := cellAt hbA f0; have f1' := cellAt hbA f1; have f2' := cellAt hbA f2; have f3' := cellAt hbA f3; have f4' := cellAt hbA f4; clear hbA x4 f0 f1 f2 f3 f4)
        | (go_at_call 31; (with_reducible refine (HC2.out _ HA.out).mono ?_); rintro eB wB ⟨rfl, hbB⟩; have HBB := Lib.hid (HA.out.trans (hbB.mono HA.out.size)); clear hbB))
      go_ret
      exact ⟨by rw [HKK.out]; simp, HB.out.trans (HBB.out.mono HB.out.size)⟩
    · go_wp2_with (go_at_call 31; (with_reducible refine HC1.out.mono ?_); rintro eA wA ⟨rfl, hbA⟩; have HA := Lib.hid hbA; clear hbA)
      go_ret
      exact ⟨by rw [HKK.out]; rfl, HB.out.trans (HA.out.mono HB.out.size)⟩
  · by_cases h3 : k = 3
    · subst h3
      have hn : nanOne 3 b (nanF kids) = nanI b := by simp [nanOne]
      have HN := Lib.hid hn
      unfold nanI at HN
      clear hn
      cases h1 : (bits .and .u64 b 9218868437227405312 == 9218868437227405312)
      · rw [h1] at HN
        go_wp2_with fail
        go_ret
        exact ⟨by rw [HN.out]; rfl, HB.out⟩
      · rw [h1] at HN
        go_wp2_with fail
        go_ret
        exact ⟨by rw [HN.out]; rfl, HB.out⟩
    · go_wp2_with fail
      go_ret
      exact ⟨by simp [nanOne, hk9, h3], HB.out⟩
theorem nanAll : ∀ f : Fo, f.All NNOK
  | .nil => trivial
  | .cons _ _ _ _ kids rest => ⟨nanN (nanAll kids), nanAll rest⟩
theorem nanG (kids : Fo) : NNOK kids := nanN (nanAll kids)

/-! ### equal to itself -/
theorem eqOne_self {k i b : Int} {t : Bs} {f : Fo} (hb : 0 ≤ b ∧ b < 18446744073709551616) (hk : keyOne k (keyF f) = true) (h : k = 9 → (eqF f f).1 = !nanF f) : (eqOne k i b t k i b t (eqF f f)).1 = !nanOne k b (nanF f) := by
  unfold eqOne nanOne
  unfold keyOne at hk
  by_cases h9 : k = 9
  · subst h9
    simpa using h rfl
  · rw [if_neg h9] at hk
    simp only [Bool.and_eq_true, bne_iff_ne] at hk
    by_cases h3 : k = 3
    · subst h3
      simp only [if_true]
      rw [nan_eq b hb.1 hb.2, ← feq_self]
      simp
    · simp [hk.1, hk.2, h3, h9]
theorem eqF_self : ∀ f : Fo, f.plain → keyF f = true → (eqF f f).1 = !nanF f
  | .nil, _, _ => rfl
  | .cons k i b t ks r, hp, hk => by
    simp only [keyF, Bool.and_eq_true] at hk
    have h1 := eqOne_self (i := i) (t := t) hp.1.1 hk.1 (fun h9 => eqF_self ks hp.2.1 (by have := hk.1; rw [h9] at this; simpa [keyOne] using this))
    have h2 := eqF_self r hp.2.2 hk.2
    simp only [eqF, nanF]
    rw [h1]
    cases hn : nanOne k b (nanF ks)
    · simp [h2]
    · rw [hn] at h1
      simp [h1]
theorem eqD_self {d : Dt} (hp : d.fo.plain) (hk : keyD d = true) : (eqD d d).1 = !nanOne d.k d.b (nanF d.l) :=
  eqOne_self hp.1.1 hk (fun h9 => eqF_self d.l hp.2.1 (by unfold keyD at hk; rw [h9] at hk; simpa [keyOne] using hk))
theorem eqOne_not {k i b : Int} {t : Bs} {f : Fo} (hk : keyOne k (keyF f) = false) (h : k = 9 → keyF f = false → (eqF f f).1 = false) : (eqOne k i b t k i b t (eqF f f)).1 = false := by
  unfold eqOne
  unfold keyOne at hk
  by_cases h9 : k = 9
  · subst h9
    simp only [if_true] at hk
    simpa using h rfl hk
  · rw [if_neg h9] at hk
    by_cases h7 : k = 7
    · simp [h7]
    · have h8 : k = 8 := by
        simp [h7] at hk
        exact hk
      simp [h8]
theorem eqF_not : ∀ f : Fo, keyF f = false → (eqF f f).1 = false
  | .nil, h => by simp [keyF] at h
  | .cons k i b t ks r, h => by
    simp only [eqF]
    by_cases c : (eqOne k i b t k i b t (eqF ks ks)).1 = true
    · rw [if_pos c]
      cases hk : keyOne k (keyF ks)
      · rw [eqOne_not hk (fun _ hf => eqF_not ks hf)] at c
        cases c
      · refine eqF_not r ?_
        simpa [keyF, hk] using h
    · rw [if_neg c]
      simpa using c
theorem eqD_not {d : Dt} (hk : keyD d = false) : (eqD d d).1 = false := eqOne_not hk (fun _ hf => eqF_not d.l hf)
end Go.Proofs.YtofpdhkdnbnobaaDoor
