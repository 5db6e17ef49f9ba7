/-
  What the program's parser and printer compute, in plain Lean: no program in sight. Not a statement of the seat.
-/
import Derived.Lib.ParseIntB
import Derived.Lib.ItoaNum
import Derived.Lib.Bytealg
namespace Go.Proofs.YtbldidiibkcelaaGreatDoor

abbrev Bs := List UInt8

/-- a row of values: each node a value with its children, and the row's rest -/
inductive Fo where
  | nil
  | cons (k i b : Int) (t : Bs) (kids rest : Fo)

namespace Fo
def len : Fo → Nat
  | nil => 0
  | cons _ _ _ _ _ r => r.len + 1
def app : Fo → Fo → Fo
  | nil, g => g
  | cons k i b t ks r, g => cons k i b t ks (r.app g)
theorem len_app : ∀ (f g : Fo), (f.app g).len = f.len + g.len
  | nil, g => by simp [app, len]
  | cons _ _ _ _ _ r, g => by simp only [app, len, len_app r g]; omega
theorem app_nil : ∀ (f : Fo), f.app nil = f
  | nil => rfl
  | cons _ _ _ _ _ r => by simp only [app, app_nil r]
theorem app_assoc : ∀ (f g h : Fo), (f.app g).app h = f.app (g.app h)
  | nil, _, _ => rfl
  | cons _ _ _ _ _ r, g, h => by simp only [app, app_assoc r g h]
end Fo

/-- a value by itself -/
structure Dt where
  k : Int
  i : Int
  b : Int
  t : Bs
  l : Fo
def Dt.zero : Dt := ⟨0, 0, 0, [], .nil⟩
def Dt.fo (d : Dt) : Fo := .cons d.k d.i d.b d.t d.l .nil

/-- what a part of the reader comes to: no end within so many steps; no value; a value, and the place behind it -/
inductive Res (α : Type) where
  | out
  | bad
  | ok (a : α) (at' : Nat)

/-! ### The code's reader: S the text -/
def hexD : Bs := [48, 49, 50, 51, 52, 53, 54, 55, 56, 57, 97, 98, 99, 100, 101, 102]
def decD : Bs := [48, 49, 50, 51, 52, 53, 54, 55, 56, 57]

def hasM (S : Bs) (a : Nat) (t : Bs) : Bool := t.isPrefixOf (S.drop a)
/-- how many bytes are among some -/
def runM (set : Bs) : Bs → Nat
  | [] => 0
  | c :: r => if 0 ≤ Go.Lib.indexByte set c then runM set r + 1 else 0
def whileM (S : Bs) (a : Nat) (set : Bs) : Nat := runM set (S.drop a)
/-- the decimal digits, of a number below 10 ^ f -/
def decF : Nat → Nat → Bs
  | 0, _ => []
  | f + 1, u => if u < 10 then [UInt8.ofNat (48 + u)] else decF f (u / 10) ++ [UInt8.ofNat (48 + u % 10)]
def dec (n : Int) : Bs := if n < 0 then 45 :: decF 20 n.natAbs else decF 20 n.toNat
theorem decF_eq : ∀ (f u : Nat), u < 10 ^ f → 0 < f → decF f u = Go.Lib.decDigits u
  | 0, _, _, h => absurd h (by omega)
  | f + 1, u, h, _ => by
    rw [Go.Lib.decDigits, decF]
    by_cases h1 : u < 10
    · rw [if_pos h1, dif_pos h1]
    · rw [if_neg h1, dif_neg h1]
      have h2 : u / 10 < 10 ^ f := by rw [Nat.pow_succ] at h; omega
      have h3 : 0 < f := by
        rcases Nat.eq_zero_or_pos f with rfl | h3
        · simp at h; omega
        · exact h3
      rw [decF_eq f _ h2 h3]
theorem dec_eq (n : Int) (h0 : -9223372036854775808 ≤ n) (h1 : n ≤ 9223372036854775807) : dec n = Go.Lib.itoa n := by
  unfold dec Go.Lib.itoa
  split
  · rw [decF_eq 20 _ (by omega) (by omega)]
  · rw [decF_eq 20 _ (by omega) (by omega)]

/-- the sign, the digits, the place behind them -/
def signM (S : Bs) (a : Nat) : Bool := hasM S a [45]
def digM (S : Bs) (a : Nat) : Nat := if signM S a then a + 1 else a
def numTo (S : Bs) (a : Nat) : Nat := digM S a + whileM S (digM S a) decD
def numText (S : Bs) (a : Nat) : Bs := (if signM S a then [45] else []) ++ (S.drop (digM S a)).take (whileM S (digM S a) decD)
def numberM (S : Bs) (a : Nat) : Option Int :=
  match Go.Lib.parseIntB 64 (numText S a) with
  | .ok v => if dec v = numText S a then some v else none
  | _ => none

/-- digits, two a byte -/
def byteOf (x y : UInt8) : UInt8 := UInt8.ofNat ((Go.Lib.indexByte hexD x).toNat * 16 + (Go.Lib.indexByte hexD y).toNat)
def unpairM : Bs → Option Bs
  | [] => some []
  | [_] => none
  | x :: y :: r => if Go.Lib.indexByte hexD x < 0 ∨ Go.Lib.indexByte hexD y < 0 then none else (unpairM r).map (byteOf x y :: ·)

/-- a quoted text, behind its first sign -/
def quotedM (S : Bs) : Nat → Nat → Bs → Res Bs
  | 0, _, _ => .out
  | f + 1, a, o =>
    match S[a]? with
    | none => .bad
    | some c =>
      if c = 34 then .ok o (a + 1)
      else if c < 32 ∨ 126 < c then .bad
      else if c ≠ 92 then quotedM S f (a + 1) (o ++ [c])
      else if hasM S (a + 1) [34] then quotedM S f (a + 2) (o ++ [34])
      else if hasM S (a + 1) [92] then quotedM S f (a + 2) (o ++ [92])
      else if hasM S (a + 1) [120] then
        match unpairM ((S.drop (a + 2)).take 2) with
        | some [b] => if 32 ≤ b ∧ b ≤ 126 then .bad else quotedM S f (a + 4) (o ++ [b])
        | _ => .bad
      else .bad

/-- the number of hex digits -/
def hexM : Bs → Nat → Nat
  | [], acc => acc
  | c :: r, acc => hexM r (acc * 16 + (Go.Lib.indexByte hexD c).toNat)

mutual
/-- a value; deep: how many are around it -/
def valueM (S : Bs) : Nat → Nat → Nat → Res Dt
  | 0, _, _ => .out
  | f + 1, deep, a =>
    if deep = 16 then .bad
    else if hasM S a [110, 105, 108] then .ok Dt.zero (a + 3)
    else if hasM S a [116, 114, 117, 101] then .ok ⟨6, 1, 0, [], .nil⟩ (a + 4)
    else if hasM S a [102, 97, 108, 115, 101] then .ok ⟨6, 0, 0, [], .nil⟩ (a + 5)
    else if hasM S a [123, 125] then .ok ⟨13, 0, 0, [], .nil⟩ (a + 2)
    else if hasM S a [38, 110, 105, 108] then .ok ⟨12, 0, 0, [], .nil⟩ (a + 4)
    else if hasM S a [35] then
      match numberM S (a + 1) with
      | some v => .ok ⟨2, v, 0, [], .nil⟩ (numTo S (a + 1))
      | none => .bad
    else if hasM S a [102] then
      if whileM S (a + 1) hexD = 16 then .ok ⟨3, 0, hexM ((S.drop (a + 1)).take 16) 0, [], .nil⟩ (a + 17) else .bad
    else if hasM S a [64] then
      if hasM S (a + 1) [34] then
        match quotedM S f (a + 2) [] with
        | .ok t a' => .ok ⟨5, 0, 0, t, .nil⟩ a'
        | .bad => .bad
        | .out => .out
      else .bad
    else if hasM S a [37] then
      match unpairM ((S.drop (a + 1)).take (whileM S (a + 1) hexD)) with
      | some t => .ok ⟨7, 0, 0, t, .nil⟩ (a + 1 + whileM S (a + 1) hexD)
      | none => .bad
    else if hasM S a [33] then
      match numberM S (a + 1) with
      | some v =>
        if hasM S (numTo S (a + 1)) [34] then
          match quotedM S f (numTo S (a + 1) + 1) [] with
          | .ok t a' => .ok ⟨10, v, 0, t, .nil⟩ a'
          | .bad => .bad
          | .out => .out
        else .bad
      | none => .bad
    else if hasM S a [38] then
      match numberM S (a + 1) with
      | some v =>
        if hasM S (numTo S (a + 1)) [40] then
          match rowM S f (deep + 1) (numTo S (a + 1) + 1) [41] .nil with
          | .ok l a' => .ok ⟨11, v, 0, [], l⟩ a'
          | .bad => .bad
          | .out => .out
        else .bad
      | none => .bad
    else if hasM S a [91] then
      match rowM S f (deep + 1) (a + 1) [93] .nil with
      | .ok l a' => .ok ⟨8, 0, 0, [], l⟩ a'
      | .bad => .bad
      | .out => .out
    else if hasM S a [40] then
      match rowM S f (deep + 1) (a + 1) [41] .nil with
      | .ok l a' => .ok ⟨9, 0, 0, [], l⟩ a'
      | .bad => .bad
      | .out => .out
    else if hasM S a [34] then
      match quotedM S f (a + 1) [] with
      | .ok t a' => .ok ⟨4, 0, 0, t, .nil⟩ a'
      | .bad => .bad
      | .out => .out
    else
      match numberM S a with
      | some v => .ok ⟨1, v, 0, [], .nil⟩ (numTo S a)
      | none => .bad
/-- values up to an end -/
def rowM (S : Bs) : Nat → Nat → Nat → Bs → Fo → Res Fo
  | 0, _, _, _, _ => .out
  | f + 1, deep, a, e, acc =>
    if hasM S a e then .ok acc (a + e.length)
    else if acc.len = 0 then
      match valueM S f deep a with
      | .ok d a' => rowM S f deep a' e (acc.app d.fo)
      | .bad => .bad
      | .out => .out
    else if hasM S a [44, 32] then
      match valueM S f deep (a + 2) with
      | .ok d a' => rowM S f deep a' e (acc.app d.fo)
      | .bad => .bad
      | .out => .out
    else .bad
end

/-! ### Valid: how many parts, how deep -/
/-- a value has the fields of its kind alone, its parts aside -/
def fitsM (k i b : Int) (t : Bs) (n : Nat) : Bool :=
  let whole := k == 1 || k == 2 || k == 6 || k == 10 || k == 11
  let bits := k == 3
  let word := k == 4 || k == 5 || k == 7 || k == 10
  (0 ≤ k && k ≤ 13) && (k != 6 || i == 0 || i == 1) && (k != 11 || 1 ≤ i)
    && (whole || i == 0) && (bits || b == 0) && (word || t == []) && t.length ≤ 65535
    && (if k == 8 then true else if k == 9 then n == 2 else if k == 11 then n == 1 else n == 0)

/-- look over a row: the parts and the greatest depth behind it, and whether all fit -/
def lookM : Fo → Nat → Nat → Nat → Bool × Nat × Nat
  | .nil, _, p, m => (true, p, m)
  | .cons k i b t kids rest, deep, p, m =>
    if 4096 < p + 1 ∨ 16 < deep ∨ fitsM k i b t kids.len = false then (false, p + 1, max m deep)
    else
      match lookM kids (deep + 1) (p + 1) (max m deep) with
      | (true, p', m') => lookM rest deep p' m'
      | (false, p', m') => (false, p', m')
def validM (d : Dt) : Bool := (lookM d.fo 1 0 0).1

/-! ### Print -/
def hex2 (c : UInt8) : Bs := [hexD.getD (c.toNat / 16) 0, hexD.getD (c.toNat % 16) 0]
def pairsM (s : Bs) : Bs := s.flatMap hex2
def quoteOne (c : UInt8) : Bs := if c = 34 ∨ c = 92 then [92, c] else if c < 32 ∨ 126 < c then 92 :: 120 :: hex2 c else [c]
def quoteM (s : Bs) : Bs := 34 :: (s.flatMap quoteOne ++ [34])
/-- n digits of a hex number -/
def hexN : Nat → Nat → Bs
  | 0, _ => []
  | n + 1, b => hexN n (b / 16) ++ [hexD.getD (b % 16) 0]
/-- one value's text, its parts' text given -/
def oneM (k i b : Int) (t : Bs) (kids : Bs) : Bs :=
  if k = 0 then [110, 105, 108]
  else if k = 1 then dec i
  else if k = 2 then 35 :: dec i
  else if k = 3 then 102 :: hexN 16 b.toNat
  else if k = 4 then quoteM t
  else if k = 5 then 64 :: quoteM t
  else if k = 6 then (if i = 1 then [116, 114, 117, 101] else [102, 97, 108, 115, 101])
  else if k = 7 then 37 :: pairsM t
  else if k = 8 then 91 :: (kids ++ [93])
  else if k = 9 then 40 :: (kids ++ [41])
  else if k = 10 then 33 :: (dec i ++ quoteM t)
  else if k = 11 then 38 :: (dec i ++ 40 :: (kids ++ [41]))
  else if k = 12 then [38, 110, 105, 108]
  else if k = 13 then [123, 125]
  else []
/-- a row's text; fst: nothing stands ahead -/
def rowP : Bool → Fo → Bs
  | _, .nil => []
  | fst, .cons k i b t kids rest => (if fst then [] else [44, 32]) ++ oneM k i b t (rowP true kids) ++ rowP false rest
def printM (d : Dt) : Bs := oneM d.k d.i d.b d.t (rowP true d.l)

/-- the text that all the statements end in, and its value -/
def wakeT : Bs := [91, 49, 44, 32, 34, 97, 34, 93]
def wakeD : Dt := ⟨8, 0, 0, [], .cons 1 1 0 [] .nil (.cons 4 0 0 [97] .nil .nil)⟩
theorem wake_value : valueM wakeT 20 0 0 = .ok wakeD 8 := by rfl
theorem wake_valid : validM wakeD = true := by rfl
theorem wake_print : printM wakeD = wakeT := by rfl
end Go.Proofs.YtbldidiibkcelaaGreatDoor
