/-
  What an error says (plain); strings.Join by the shelf. Not a statement of the seat.
-/
import Derived.Test.YtbldidiibkcelaaGreatDoorTEPr
import Derived.Test.YtbldidiibkcelaaGreatDoorTERAs
import Derived.Shelf.Strings.OnBuilder
import Derived.Lib.Join
namespace Go.Proofs
open Go.Shelf Go.RowKit
def Tryz.lays156_ren : Go.Shelf.Ren := ⟨fun | 156 => 155 | 165 => 156 | 166 => 157 | 169 => 158 | 240 => 159 | 241 => 160 | 276 => 161 | 277 => 162 | n => n, fun | 31 => 244 | 9 => 9 | 3 => 3 | 4 => 4 | 0 => 0 | 20 => 20 | 72 => 248 | 76 => 250 | 70 => 246 | 37 => 188 | 75 => 68 | 127 => 238 | 164 => 153 | 5 => 5 | 80 => 85 | n => n, fun | n => n⟩
theorem Tryz.lays156 : Go.Proofs.Lays.n156 Tryz.prog Tryz.lays156_ren := {
  mixed := by kernel_rfl
  f156 := Tryz.func155.trans (congrArg some (by kernel_rfl))
  f165 := Tryz.func156.trans (congrArg some (by kernel_rfl))
  f166 := Tryz.func157.trans (congrArg some (by kernel_rfl))
  f169 := Tryz.func158.trans (congrArg some (by kernel_rfl))
  f240 := Tryz.func159.trans (congrArg some (by kernel_rfl))
  f241 := Tryz.func160.trans (congrArg some (by kernel_rfl))
  f276 := Tryz.func161.trans (congrArg some (by kernel_rfl))
  f277 := Tryz.func162.trans (congrArg some (by kernel_rfl))
  t0 := Tryz.underlying0
  a0 := Tryz.isAgg0
  z0 := Tryz.sizeOf0
  v0 := Tryz.zeroValue0
  t3 := Tryz.underlying3
  a3 := Tryz.isAgg3
  z3 := Tryz.sizeOf3
  v3 := Tryz.zeroValue3
  t4 := Tryz.underlying4
  a4 := Tryz.isAgg4
  z4 := Tryz.sizeOf4
  v4 := Tryz.zeroValue4
  t9 := Tryz.underlying9
  a9 := Tryz.isAgg9
  z9 := Tryz.sizeOf9
  v9 := Tryz.zeroValue9
  t20 := Tryz.underlying20
  a20 := Tryz.isAgg20
  z20 := Tryz.sizeOf20
  v20 := Tryz.zeroValue20
  t31 := Tryz.underlying244
  a31 := Tryz.isAgg244
  z31 := Tryz.sizeOf244
  v31 := Tryz.zeroValue244
  t37 := Tryz.underlying188
  a37 := Tryz.isAgg188
  z37 := Tryz.sizeOf188
  v37 := Tryz.zeroValue188
  t70 := Tryz.underlying246
  a70 := Tryz.isAgg246
  z70 := Tryz.sizeOf246
  v70 := Tryz.zeroValue246
  t72 := Tryz.underlying248
  a72 := Tryz.isAgg248
  z72 := Tryz.sizeOf248
  v72 := Tryz.zeroValue248
  t75 := Tryz.underlying68
  a75 := Tryz.isAgg68
  z75 := Tryz.sizeOf68
  v75 := Tryz.zeroValue68
  t76 := Tryz.underlying250
  a76 := Tryz.isAgg250
  z76 := Tryz.sizeOf250
  v76 := Tryz.zeroValue250
  t127 := Tryz.underlying238
  a127 := Tryz.isAgg238
  z127 := Tryz.sizeOf238
  v127 := Tryz.zeroValue238
  t164 := Tryz.underlying153
  a164 := Tryz.isAgg153
  z164 := Tryz.sizeOf153
  v164 := Tryz.zeroValue153 }
theorem Tryz.Builder_Extra_156 : Builder.Extra Tryz.prog Tryz.lays156_ren := {
  sizeBuilder := by kernel_rfl
  liesBuilder := by kernel_rfl
  t5 := Tryz.underlying5
  a5 := Tryz.isAgg5
  z5 := Tryz.sizeOf5
  v5 := Tryz.zeroValue5
  infoByte := by kernel_rfl
  cellsByte := by kernel_rfl
  sizeByte := by kernel_rfl
  neB5 := by decide }
theorem Tryz.strings_Join_none (a : Option Addr) (c : Nat) (sep : ByteArray) (w : World) :
    Calls Tryz.prog 155 #[.slice a 0 c, .string sep] w fun e w' => e = .returned (.string ⟨#[]⟩) ∧ w' = w := Any.strings_Join_none Tryz.lays156 Tryz.Builder_Extra_156 a c sep w
theorem Tryz.strings_Join (bk o c : Nat) (xs : List ByteArray) (sep : ByteArray) (w : World) (hcells : ∀ (j : Nat) x, xs[j]? = some x → w.cell? ⟨bk, o + j, none⟩ = some (.string x)) (hbk : bk < w.heap.size) (hN : xs.length ≤ 140737488355328) (hcap : xs.length ≤ c) (hlen : (Lib.join (xs.map (·.data.toList)) sep.data.toList).length ≤ 140737488355328) :
    Calls Tryz.prog 155 #[.slice (some ⟨bk, o, none⟩) xs.length c, .string sep] w fun e w' => e = .returned (.string ⟨(Lib.join (xs.map (·.data.toList)) sep.data.toList).toArray⟩) ∧ Below w.heap.size w w' := Any.strings_Join Tryz.lays156 Tryz.Builder_Extra_156 bk o c xs sep w hcells hbk hN hcap hlen
end Go.Proofs
namespace Go.Proofs.YtbldidiibkcelaaGreatDoor
open Go.RowKit

/-- the text of one error, from those of what it wraps; none: it panics -/
def txK (k : Int) (t : Bs) (b : Dt) (cs : List Int) (r : Option (List Bs)) : Option Bs :=
  if k = 7 then none else if k = 5 then some (printM b) else if k = 6 then some (Go.Lib.join (cs.map dec) [32]) else
  match r with
  | none => none
  | some l => if k = 4 then some (Go.Lib.join l [10]) else match l with
    | [] => some t
    | s :: _ => some (t ++ 58 :: 32 :: s)
/-- the texts of a row's errors -/
def txL : Eo → Option (List Bs)
  | .nil => some []
  | .cons k _ _ t b cs ks rest => if k = 0 then txL rest else match txK k t b cs (txL ks) with
    | none => none
    | some s => match txL rest with
      | none => none
      | some l => some (s :: l)
def tx1 (e : Et) : Option Bs := txK e.k e.t e.b e.cs (txL e.l)
theorem txL_zero (i c : Int) (t : Bs) (b : Dt) (cs : List Int) (ks rest : Eo) : txL (.cons 0 i c t b cs ks rest) = txL rest := by rw [txL, if_pos rfl]
theorem txL_none {k i c : Int} {t : Bs} {b : Dt} {cs : List Int} {ks rest : Eo} (h0 : k ≠ 0) (h : tx1 ⟨k, i, c, t, b, cs, ks⟩ = none) : txL (.cons k i c t b cs ks rest) = none := by
  unfold tx1 at h
  dsimp only at h
  rw [txL, if_neg h0, h]
theorem txL_some {k i c : Int} {t : Bs} {b : Dt} {cs : List Int} {ks rest : Eo} {s : Bs} (h0 : k ≠ 0) (h : tx1 ⟨k, i, c, t, b, cs, ks⟩ = some s) : txL (.cons k i c t b cs ks rest) = (txL rest).map (s :: ·) := by
  unfold tx1 at h
  dsimp only at h
  rw [txL, if_neg h0, h]
  cases txL rest <;> rfl
theorem txL_app : ∀ (f g : Eo), txL (f.app g) = (txL f).bind (fun l => (txL g).map (l ++ ·))
  | .nil, g => by cases h : txL g <;> simp [Eo.app, txL, h]
  | .cons k i c t b cs ks rest, g => by
    rw [Eo.app]
    by_cases h0 : k = 0
    · subst h0
      rw [txL_zero, txL_zero, txL_app rest g]
    · cases h : tx1 ⟨k, i, c, t, b, cs, ks⟩ with
      | none => rw [txL_none h0 h, txL_none h0 h]; rfl
      | some s =>
        rw [txL_some h0 h, txL_some h0 h, txL_app rest g]
        cases txL rest with
        | none => rfl
        | some l => cases txL g <;> rfl
theorem txL_one {k i c : Int} {t : Bs} {b : Dt} {cs : List Int} {ks : Eo} (h0 : k ≠ 0) : txL (.cons k i c t b cs ks .nil) = (tx1 ⟨k, i, c, t, b, cs, ks⟩).map (fun s => [s]) := by
  cases h : tx1 ⟨k, i, c, t, b, cs, ks⟩ with
  | none => rw [txL_none h0 h]; rfl
  | some s => rw [txL_some h0 h]; rfl
/-- how long texts may be -/
def TW : Eo → Nat
  | .nil => 0
  | .cons k _ _ t b cs ks rest => t.length + 4 + 22 * cs.length + (if k = 5 then (printM b).length else 0) + TW ks + TW rest
def TW1 (e : Et) : Nat := e.t.length + 4 + 22 * e.cs.length + (if e.k = 5 then (printM e.b).length else 0) + TW e.l
theorem join_le (l : List Bs) (x : UInt8) : (Go.Lib.join l [x]).length ≤ Go.Lib.lens l + l.length := by
  cases l with
  | nil => simp [Go.Lib.join_nil]
  | cons a r =>
    rw [Go.Lib.join_length]
    simp
    omega
theorem lens_dec (cs : List Int) : Go.Lib.lens (cs.map dec) ≤ 21 * cs.length := by
  induction cs with
  | nil => simp [Go.Lib.lens]
  | cons c r ih =>
    have := dec_len c
    simp only [Go.Lib.lens, List.map_cons, List.sum_cons, List.length_cons] at ih ⊢
    omega
theorem txK_len {k i c : Int} {t : Bs} {b : Dt} {cs : List Int} {ks : Eo} {s : Bs} (hl : ∀ l, txL ks = some l → Go.Lib.lens l + 2 * l.length ≤ TW ks) (h : tx1 ⟨k, i, c, t, b, cs, ks⟩ = some s) : s.length + 2 ≤ TW1 ⟨k, i, c, t, b, cs, ks⟩ := by
  unfold tx1 txK at h
  unfold TW1
  dsimp only at h ⊢
  split at h
  · cases h
  · split at h
    · rename_i h5
      cases h
      rw [if_pos h5]
      omega
    · split at h
      · cases h
        have h1 := join_le (cs.map dec) 32
        have h2 := lens_dec cs
        rw [List.length_map] at h1
        omega
      · cases hk : txL ks with
        | none => rw [hk] at h; cases h
        | some l =>
          rw [hk] at h
          have h3 := hl l hk
          dsimp only at h
          split at h
          · cases h
            have h1 := join_le l 10
            omega
          · cases l with
            | nil => cases h; omega
            | cons a r =>
              cases h
              have h4 : Go.Lib.lens (a :: r) = a.length + Go.Lib.lens r := by simp [Go.Lib.lens]
              simp only [List.length_append, List.length_cons] at h3 ⊢
              omega
theorem txL_len : ∀ (f : Eo) (l : List Bs), txL f = some l → Go.Lib.lens l + 2 * l.length ≤ TW f
  | .nil, l, h => by cases h; simp [Go.Lib.lens]
  | .cons k i c t b cs ks rest, l, h => by
    rw [TW]
    by_cases h0 : k = 0
    · subst h0
      rw [txL_zero] at h
      have := txL_len rest l h
      omega
    · cases hs : tx1 ⟨k, i, c, t, b, cs, ks⟩ with
      | none => rw [txL_none h0 hs] at h; cases h
      | some s =>
        rw [txL_some h0 hs] at h
        cases hr : txL rest with
        | none => rw [hr] at h; cases h
        | some l' =>
          rw [hr] at h
          cases h
          have h1 := txL_len rest l' hr
          have h2 := txK_len (txL_len ks) hs
          unfold TW1 at h2
          dsimp only at h2
          have h4 : Go.Lib.lens (s :: l') = s.length + Go.Lib.lens l' := by simp [Go.Lib.lens]
          rw [h4, List.length_cons]
          omega
theorem tx1_len {e : Et} {s : Bs} (h : tx1 e = some s) : s.length + 2 ≤ TW1 e := txK_len (txL_len e.l) h
/-- how long a valid value's text may be -/
theorem wt_right : ∀ f : Fo, rightM f = true → f.wt ≤ sizeF f * 262250
  | .nil, _ => by simp [Fo.wt]
  | .cons k i b t kids rest, h => by
    simp only [rightM, Bool.and_eq_true] at h
    have h1 := wt_right kids h.1.2
    have h2 := wt_right rest h.2
    have h3 : t.length ≤ 65535 := by
      have := h.1.1
      simp only [fitsM, Bool.and_eq_true, decide_eq_true_eq] at this
      omega
    simp only [Fo.wt, sizeF]
    omega
theorem wt_ok {d : Dt} (h : okD d) : d.fo.wt ≤ 1100000000 := by
  obtain ⟨h1, _, h3⟩ := h
  have := wt_right d.fo h3
  have hs : sizeF d.fo = 1 + sizeF d.l := by simp [Dt.fo, sizeF]
  omega
theorem printM_le (d : Dt) : (printM d).length ≤ d.fo.wt := by
  have := rowP_len d.fo true
  have h2 : rowP true d.fo = printM d := by simp [Dt.fo, rowP, printM]
  rw [h2] at this
  exact this
theorem fit_hold {k i c : Int} {t : Bs} {b : Dt} {cn n : Nat} (h : fitsE k i c t b cn n = true) (h5 : k = 5) : okD b := by
  subst h5
  unfold fitsE at h
  simp only [Bool.and_eq_true] at h
  have h1 := h.2.2
  have h2 : validD b = true := by
    unfold fitC at h1
    simpa [fldM] using h1
  by_cases hk : okD b
  · exact hk
  · rw [(valid_bad hk).1] at h2; cases h2
theorem fit_text {k i c : Int} {t : Bs} {b : Dt} {cn n : Nat} (h : fitsE k i c t b cn n = true) : t.length ≤ 65535 := by
  unfold fitsE fitA at h
  simp only [Bool.and_eq_true, decide_eq_true_eq] at h
  exact h.1.2.2.2.2.2.1
theorem TW_le : ∀ (f : Eo) (m : Bool), rrightL m f = true → okC f → TW f ≤ esz f * 1110000000
  | .nil, _, _, _ => by simp [TW]
  | .cons k i c t b cs ks rest, m, hr, hc => by
    have hk : rightE ⟨k, i, c, t, b, cs, ks⟩ = true := right_head hr
    have hrest : rrightL m rest = true := by rw [rrightL, Bool.and_eq_true] at hr; exact hr.2
    unfold rightE rright1 at hk
    rw [Bool.and_eq_true] at hk
    have h1 := TW_le ks _ hk.2 hc.2.2.2.1
    have h2 := TW_le rest _ hrest hc.2.2.2.2
    have h3 := fit_text hk.1
    have h4 := hc.2.1
    have h5 : (if k = 5 then (printM b).length else 0) ≤ 1100000000 := by
      split
      · rename_i h
        have h6 : b.fo.wt ≤ 1100000000 := wt_ok (fit_hold hk.1 h)
        have h7 := printM_le b
        omega
      · omega
    dsimp only at h1 h3
    rw [TW, esz]
    omega
theorem TW1_le {e : Et} (hr : rightE e = true) (hok : okS e) : TW1 e ≤ (1 + esz e.l) * 1110000000 := by
  unfold rightE rright1 at hr
  rw [Bool.and_eq_true] at hr
  have h1 := TW_le e.l _ hr.2 hok.2.2.2
  have h3 := fit_text hr.1
  have h4 := hok.2.1
  have h5 : (if e.k = 5 then (printM e.b).length else 0) ≤ 1100000000 := by
    split
    · rename_i h
      have h6 : e.b.fo.wt ≤ 1100000000 := wt_ok (fit_hold hr.1 h)
      have h7 := printM_le e.b
      omega
    · omega
  unfold TW1
  omega
/-- the numbers in an error are of their widths -/
def erng : Eo → Prop
  | .nil => True
  | .cons _ _ _ _ b cs ks rest => b.fo.plain ∧ (∀ x ∈ cs, -9223372036854775808 ≤ x ∧ x ≤ 9223372036854775807) ∧ erng ks ∧ erng rest
end Go.Proofs.YtbldidiibkcelaaGreatDoor

