/-
  '==' of floats is symmetric and transitive; what is equal to itself. Not a statement of the seat.
-/
import Derived.Test.YtofpdhkdnbnobaaDoorREqual
namespace Go.Proofs.YtofpdhkdnbnobaaDoor
open Go.RowKit

/-- two data are the same number -/
def samD : Ieee.Datum → Ieee.Datum → Prop
  | .infinity s, .infinity t => s = t
  | .number s m i, .number t n j => ∀ c : Int, c ≤ i → c ≤ j → Ieee.signed s m (i - c).toNat = Ieee.signed t n (j - c).toNat
  | _, _ => False
theorem signed_up (s : Bool) (m u d : Nat) : Ieee.signed s m (u + d) = Ieee.signed s m u * ((2 ^ d : Nat) : Int) := by
  have h : ((m <<< (u + d) : Nat) : Int) = ((m <<< u : Nat) : Int) * ((2 ^ d : Nat) : Int) := by
    rw [← Int.natCast_mul, Nat.shiftLeft_eq, Nat.shiftLeft_eq, Nat.pow_add, Nat.mul_assoc]
  unfold Ieee.signed
  cases s
  · simpa using h
  · simp only [if_true]
    rw [h, Int.neg_mul]
theorem signed_low {s t : Bool} {m n : Nat} {i j c d : Int} (hd : d ≤ c) (hi : c ≤ i) (hj : c ≤ j) : Ieee.signed s m (i - c).toNat = Ieee.signed t n (j - c).toNat ↔ Ieee.signed s m (i - d).toNat = Ieee.signed t n (j - d).toNat := by
  have e1 : (i - d).toNat = (i - c).toNat + (c - d).toNat := by omega
  have e2 : (j - d).toNat = (j - c).toNat + (c - d).toNat := by omega
  rw [e1, e2, signed_up, signed_up]
  constructor
  · intro h; rw [h]
  · intro h
    refine Int.eq_of_mul_eq_mul_right ?_ h
    have : 0 < 2 ^ (c - d).toNat := Nat.two_pow_pos _
    omega
theorem order_same (x y : Ieee.Datum) : (x.order y == some .eq) = true ↔ samD x y := by
  cases x with
  | nan => cases y <;> simp [Ieee.Datum.order, samD]
  | infinity s =>
    cases y with
    | nan => simp [Ieee.Datum.order, samD]
    | number => cases s <;> simp [Ieee.Datum.order, samD]
    | infinity t => cases s <;> cases t <;> simp only [Ieee.Datum.order, samD] <;> decide
  | number s m i =>
    cases y with
    | nan => simp [Ieee.Datum.order, samD]
    | infinity t => cases t <;> simp [Ieee.Datum.order, samD]
    | number t n j =>
      have h : (Ieee.Datum.order (.number s m i) (.number t n j) == some .eq) = true ↔ Ieee.signed s m (i - min i j).toNat = Ieee.signed t n (j - min i j).toNat := by
        simp only [Ieee.Datum.order]
        rw [beq_iff_eq, Option.some.injEq, Int.compare_eq_eq]
      rw [h]
      constructor
      · intro h c hi hj
        exact (signed_low (c := min i j) (d := c) (by omega) (by omega) (by omega)).1 h
      · intro h
        exact h (min i j) (by omega) (by omega)
theorem samD.symm {x y : Ieee.Datum} (h : samD x y) : samD y x := by
  cases x <;> cases y <;> simp only [samD] at h ⊢
  · exact fun c hi hj => (h c hj hi).symm
  · exact h.symm
theorem samD.trans {x y z : Ieee.Datum} (h : samD x y) (g : samD y z) : samD x z := by
  cases x <;> cases y <;> cases z <;> simp only [samD] at h g ⊢
  · rename_i s m i t n j u o k
    intro c hi hk
    exact (signed_low (c := c) (d := min c j) (by omega) hi hk).2 ((h (min c j) (by omega) (by omega)).trans (g (min c j) (by omega) (by omega)))
  · exact h.trans g
theorem samD.self (x : Ieee.Datum) : samD x x ↔ x.isNaN = false := by
  cases x <;> simp [samD, Ieee.Datum.isNaN]

theorem feq_same (b b' : Int) : feq b b' = true ↔ samD (FloatKind.format .f64 |>.read b.toNat) (FloatKind.format .f64 |>.read b'.toNat) := order_same _ _
theorem feq_symm (b b' : Int) : feq b b' = feq b' b := by
  rw [Bool.eq_iff_iff, feq_same, feq_same]
  exact ⟨samD.symm, samD.symm⟩
theorem feq_trans {a b c : Int} (h : feq a b = true) (g : feq b c = true) : feq a c = true := by
  rw [feq_same] at *
  exact h.trans g
/-- is a NaN -/
def nanB (b : Int) : Bool := ((FloatKind.format .f64).read b.toNat).isNaN
theorem feq_self (b : Int) : feq b b = !nanB b := by
  rw [Bool.eq_iff_iff, feq_same, samD.self, nanB]
  simp
end Go.Proofs.YtofpdhkdnbnobaaDoor
