/-
  The document's count (walk). Not a statement of the seat.
-/
import Derived.Test.YtbldidiibkcelaaGreatDoorTEMem
namespace Go.Proofs.YtbldidiibkcelaaGreatDoor
open Go.RowKit

def cntL : Fo → Nat → Nat → Nat → Nat → Nat × Nat
  | .nil, _, _, n, most => (n, most)
  | .cons _ _ _ _ kids rest, deep, left, n, most =>
    let r := if 16 < deep + 1 ∨ left - n = 0 then (4097, deep + 1) else cntL kids (deep + 1) (left - n) 1 (deep + 1)
    if left < n + r.1 ∨ 16 < max most r.2 then (4097, max most r.2) else cntL rest deep left (n + r.1) (max most r.2)
/-- of a value with these children -/
def cntM (kids : Fo) (deep left : Nat) : Nat × Nat := if 16 < deep ∨ left = 0 then (4097, deep) else cntL kids deep left 1 deep
theorem cntL_cons (k i b : Int) (t : Bs) (kids rest : Fo) (deep left n most : Nat) : cntL (.cons k i b t kids rest) deep left n most =
    if left < n + (cntM kids (deep + 1) (left - n)).1 ∨ 16 < max most (cntM kids (deep + 1) (left - n)).2 then (4097, max most (cntM kids (deep + 1) (left - n)).2)
    else cntL rest deep left (n + (cntM kids (deep + 1) (left - n)).1) (max most (cntM kids (deep + 1) (left - n)).2) := by
  rw [cntL]; rfl
theorem cntL_le : ∀ (f : Fo) (deep left n most : Nat), n ≤ left → left ≤ 4096 → (cntL f deep left n most).1 ≤ 4097
  | .nil, deep, left, n, most, h, h2 => by rw [cntL]; show n ≤ 4097; omega
  | .cons k i b t kids rest, deep, left, n, most, h, h2 => by
    rw [cntL_cons]
    split
    · exact Nat.le_refl _
    · rename_i hc
      exact cntL_le rest _ _ _ _ (by omega) h2
theorem cntM_le (kids : Fo) (deep left : Nat) (h2 : left ≤ 4096) : (cntM kids deep left).1 ≤ 4097 := by
  unfold cntM
  split
  · exact Nat.le_refl _
  · exact cntL_le _ _ _ _ _ (by omega) h2
def CP (w : World) (res : Nat × Nat) (e : Ending) (w' : World) : Prop := e = .returned (.tuple #[.int .i64 (res.1 : Nat), .int .i64 (res.2 : Nat)]) ∧ Below w.heap.size w w'
def COK (kids : Fo) : Prop := ∀ (k i b : Int) (t : Bs) (l : Option Addr) (n c : Nat) (S : Nat → Prop) (deep left : Nat) (w : World), FoAt S w kids l n c → (∀ x, S x → x < w.heap.size) → deep ≤ 17 → left ≤ 4096 →
  Calls Tryz.prog 99 #[.agg #[.int .i64 k, .int .i64 i, .int .u64 b, .string ⟨t.toArray⟩, .slice l n c], .int .i64 (deep : Nat), .int .i64 (left : Nat)] w (CP w (cntM kids deep left))
def CRel (kids : Fo) (deep left : Nat) (w : World) (res : Nat × Nat) (t24 t8 t9 : Value) (wr : World) : Prop :=
  ∃ (dn rest : Fo) (n most : Nat), t24 = .int .i64 (dn.len : Nat) ∧ t8 = .int .i64 (n : Nat) ∧ t9 = .int .i64 (most : Nat) ∧ kids = dn.app rest ∧ Below w.heap.size w wr ∧ n ≤ left ∧ most ≤ 17 ∧ cntL rest deep left n most = res
set_option maxHeartbeats 8000000 in
set_option maxRecDepth 100000 in
theorem countN {kids : Fo} (hall : kids.All COK) : COK kids := by
  intro k i b t l n c S deep left w hF hS hd hl
  generalize hres : cntM kids deep left = res
  have hlen := hF.len
  unfold cntM at hres
  have hA := Blk.new w #[.int .i64 k, .int .i64 i, .int .u64 b, .string ⟨t.toArray⟩, .slice l n c] 25
  have hBA : Below w.heap.size w (w.alloc (.cells #[.int .i64 k, .int .i64 i, .int .u64 b, .string ⟨t.toArray⟩, .slice l n c] 25)) := (Below.refl _ _).alloc (Nat.le_refl _) _
  go_enter Tryz.func99, Tryz.ntmps99
  go_upto_region 1 with (fail)
  generalize w.alloc (.cells #[.int .i64 k, .int .i64 i, .int .u64 b, .string ⟨t.toArray⟩, .slice l n c] 25) = w1 at *
  have b4 := hA.cell 4 rfl
  have HF := Lib.hid hF
  have HS := Lib.hid hS
  have HA := Lib.hid hA
  have HBA := Lib.hid hBA
  clear hA hBA hF hS
  by_cases h1 : 16 < deep
  · have h1i : (16 : Int) < (deep : Int) := by omega
    rw [if_pos (.inl h1)] at hres
    subst hres
    clear h1
    go_wp2_with fail
    go_ret2
    exact ⟨rfl, HBA.out⟩
  · have h1i : ¬ (16 : Int) < (deep : Int) := by omega
    by_cases h2 : left = 0
    · rw [if_pos (.inr h2)] at hres
      subst hres
      subst h2
      clear h1
      go_wp2_with fail
      go_ret2
      exact ⟨rfl, HBA.out⟩
    · have h2i : ¬ (left : Int) ≤ 0 := by omega
      rw [if_neg (by omega)] at hres
      obtain ⟨d1, hd1⟩ : ∃ d1, d1 = deep + 1 := ⟨_, rfl⟩
      have hd17 : d1 ≤ 17 := by omega
      have hd1i : (deep : Int) + 1 = (d1 : Int) := by omega
      have H0 := Lib.hid (show CRel kids deep left w res (.int .i64 0) (.int .i64 1) (.int .i64 (deep : Nat)) w1 from ⟨.nil, kids, 1, deep, rfl, rfl, rfl, rfl, HBA.out, by omega, by omega, hres⟩)
      have HALL := Lib.hid hall
      have HLEN := Lib.hid hlen
      have HD1 := Lib.hid hd1
      clear hres hall hlen h1 h2 hd1
      go_wp2_with fail
      go_loopw [24, 8, 9] (fun t24 t8 t9 wr => CRel kids deep left w res t24 t8 t9 wr ∧ wr.cell? ⟨w.heap.size, 4, none⟩ = some (.slice l n c) ∧ Below w1.heap.size w1 wr) (fun t24 _ _ _ => n - (intOf t24).toNat)
      case atStart => exact ⟨H0.out, b4, Below.refl _ _⟩
      case round =>
        obtain ⟨⟨dn, rest, m, most, rfl, rfl, rfl, hk, hB, hml, hmo, hq⟩, c4, hB1⟩ := hrel
        have hlen := HLEN.out
        rw [hk, Fo.len_app] at hlen
        have HB := Lib.hid hB
        have HB1 := Lib.hid hB1
        have hFr : FoAt S wr kids l n c := HF.out.same (fun x hx hlt => hB.block x (HS.out x hx)) (fun x hx _ => hx)
        clear hB hB1 H0 b4
        cases rest with
        | nil =>
          have hj : ¬ (dn.len : Int) < (n : Int) := by have : Fo.len .nil = 0 := rfl; omega
          rw [cntL] at hq
          have HR := Lib.hid hq
          clear hq hk hlen hFr
          go_wp2_with fail
          go_ret2
          rw [← HR.out]
          exact ⟨rfl, HB.out⟩
        | cons k2 i2 b2 t2 ks rest2 =>
          have hlr : (Fo.cons k2 i2 b2 t2 ks rest2).len = rest2.len + 1 := rfl
          have hjn : dn.len < n := by omega
          have hj : (dn.len : Int) < (n : Int) := by omega
          obtain ⟨cs, ⟨hRd, hSx⟩, hAt⟩ := hFr
          have hHead := hRd.at (k := dn.len) hjn
          have hnb : n ≤ 9223372036854775807 := by have h1 := hRd.le; have h2 := hRd.max; unfold maxLen at h2; omega
          rw [hk] at hAt
          obtain ⟨cs1, cs2, rfl, hA1, hA2⟩ := At.split dn hAt
          have hl1 := At.len dn hA1
          obtain ⟨a2, n2, cap2, ks2, cs', rfl, hKid, hKidAt, _⟩ := hA2
          obtain ⟨bb2, off, rfl, hlt, hc⟩ := hHead
          have hcell : ∀ i, i < 5 → wr.cell? ⟨bb2, off + dn.len * 5 + i, none⟩ = [Value.int .i64 k2, .int .i64 i2, .int .u64 b2, .string ⟨t2.toArray⟩, .slice a2 n2 cap2][i]? := fun i hi => by
            rw [hc i hi, List.getElem?_append_right (by omega), hl1, Nat.add_sub_cancel_left]
            match i, hi with
            | 0, _ => rfl
            | 1, _ => rfl
            | 2, _ => rfl
            | 3, _ => rfl
            | 4, _ => rfl
          have hkF : FoAt S wr ks a2 n2 cap2 := ⟨ks2, hKid, hKidAt⟩
          have e0 := hcell 0 (by omega)
          have e1 := hcell 1 (by omega)
          have e2 := hcell 2 (by omega)
          have e3 := hcell 3 (by omega)
          have e4 := hcell 4 (by omega)
          simp only [List.getElem?_cons_zero, List.getElem?_cons_succ, Nat.add_zero] at e0 e1 e2 e3 e4
          have hCOK : COK ks := by
            have hal := HALL.out
            rw [hk] at hal
            exact (Fo.All.split dn hal).1
          rw [cntL_cons, ← HD1.out] at hq
          obtain ⟨lf, hlf⟩ : ∃ lf, lf = left - m := ⟨_, rfl⟩
          rw [← hlf] at hq
          have hlfi : (left : Int) - (m : Int) = (lf : Int) := by omega
          have HC := Lib.hid (hCOK k2 i2 b2 t2 a2 n2 cap2 S d1 lf wr hkF (fun x hx => Nat.lt_of_lt_of_le (HS.out x hx) HB.out.size) hd17 (by omega))
          have hcm := cntM_le ks d1 lf (by omega)
          have HKK := Lib.hid hk
          have HJ := Lib.hid hjn
          generalize cntM ks d1 lf = r at *
          obtain ⟨r1, r2⟩ := r
          have HQ := Lib.hid hq
          obtain ⟨n1, hn1⟩ : ∃ n1, n1 = m + r1 := ⟨_, rfl⟩
          obtain ⟨m1, hm1⟩ : ∃ m1, m1 = max most r2 := ⟨_, rfl⟩
          replace hcm : r1 ≤ 4097 := hcm
          have hn1i : (m : Int) + (r1 : Int) = (n1 : Int) := by omega
          have hm1i : max (most : Int) (r2 : Int) = (m1 : Int) := by omega
          have hm1j : max (r2 : Int) (most : Int) = (m1 : Int) := by omega
          have hq' := HQ.out
          simp only [← hn1, ← hm1] at hq'
          have HNM := Lib.hid (And.intro hn1 hm1)
          have HLF := Lib.hid hlf
          clear hkF hCOK hk hcell hc hRd hSx hAt hA1 hKid hKidAt hl1 hlen hlr hlt hjn hq HQ hn1 hm1 hlf
          generalize hjj : dn.len = j at *
          have HJJ := Lib.hid hjj
          clear hjj
          by_cases hc1 : left < n1
          · have hc1i : (left : Int) < (n1 : Int) := by omega
            rw [if_pos (.inl hc1)] at hq'
            have HR := Lib.hid hq'
            clear hq'
            go_wp2_with (go_at_call 99; (with_reducible refine HC.out.mono ?_); rintro e5 w5 ⟨rfl, hB5⟩)
            go_ret2
            rw [← HR.out]
            exact ⟨rfl, HB.out.trans (hB5.mono HB.out.size)⟩
          · have hc1i : ¬ (left : Int) < (n1 : Int) := by omega
            by_cases hc2 : 16 < m1
            · have hc2i : (16 : Int) < (m1 : Int) := by omega
              rw [if_pos (.inr hc2)] at hq'
              have HR := Lib.hid hq'
              clear hq'
              go_wp2_with (go_at_call 99; (with_reducible refine HC.out.mono ?_); rintro e5 w5 ⟨rfl, hB5⟩)
              go_ret2
              rw [← HR.out]
              exact ⟨rfl, HB.out.trans (hB5.mono HB.out.size)⟩
            · have hc2i : ¬ (16 : Int) < (m1 : Int) := by omega
              rw [if_neg (by omega)] at hq'
              have HR := Lib.hid hq'
              clear hq'
              go_wp2_with (go_at_call 99; (with_reducible refine HC.out.mono ?_); rintro e5 w5 ⟨rfl, hB5⟩; have HB5 := Lib.hid hB5; clear hB5)
              go_roundw
              case rel =>
                refine ⟨⟨dn.app (.cons k2 i2 b2 t2 ks .nil), rest2, n1, m1, ?_, rfl, rfl, ?_, HB.out.trans (HB5.out.mono HB.out.size), by omega, by omega, HR.out⟩, cellAt HB5.out c4, HB1.out.trans (HB5.out.mono HB1.out.size)⟩
                · rw [Fo.len_app, HJJ.out, show (Fo.cons k2 i2 b2 t2 ks .nil).len = 1 from rfl]; go_num
                · rw [Fo.app_assoc]; exact HKK.out
              case measure => simp [intOf]; have := HJ.out; omega
theorem countAll : ∀ f : Fo, f.All COK
  | .nil => trivial
  | .cons _ _ _ _ kids rest => ⟨countN (countAll kids), countAll rest⟩
theorem countG (kids : Fo) : COK kids := countN (countAll kids)
end Go.Proofs.YtbldidiibkcelaaGreatDoor

/-
  The document's right (walk). Not a statement of the seat.
-/
namespace Go.Proofs.YtbldidiibkcelaaGreatDoor
open Go.RowKit

def rightM : Fo → Bool
  | .nil => true
  | .cons k i b t kids rest => (fitsM k i b t kids.len && rightM kids) && rightM rest
def fits3 (wh bi wo : Bool) (pl i b : Int) (t : Bs) (n : Nat) : Bool := fits2 wh bi wo (if pl < 0 then (n : Int) else pl) i b t n
def RTOK (kids : Fo) : Prop := ∀ (k i b : Int) (t : Bs) (l : Option Addr) (n c : Nat) (S : Nat → Prop) (w : World), FoAt S w kids l n c → (∀ x, S x → x < w.heap.size) →
  Calls Tryz.prog 100 #[.agg #[.int .i64 k, .int .i64 i, .int .u64 b, .string ⟨t.toArray⟩, .slice l n c]] w (fun e w' => e = .returned (.bool (fitsM k i b t n && rightM kids)) ∧ Below w.heap.size w w')
def RTRel (kids : Fo) (w : World) (t89 : Value) (wr : World) : Prop := ∃ (dn rest : Fo), t89 = .int .i64 (dn.len : Nat) ∧ kids = dn.app rest ∧ Below w.heap.size w wr ∧ rightM kids = rightM rest
set_option maxRecDepth 100000 in
set_option maxHeartbeats 16000000 in
theorem rightN {kids : Fo} (hall : kids.All RTOK) : RTOK kids := by
  intro k i b tb l n c S w hF hS
  have hlen := hF.len
  obtain ⟨t, ht0⟩ : ∃ t : ByteArray, t = ⟨tb.toArray⟩ := ⟨_, rfl⟩
  have htb : tb = t.data.toList := by rw [ht0]
  rw [← ht0]
  subst htb
  have hsz := Lib.size_eq t
  have HSZ := Lib.hid hsz
  have hW := Blk.new w #[.int .i64 k, .int .i64 i, .int .u64 b, .string t, .slice l n c] 25
  have hBW : Below w.heap.size w (w.alloc (.cells #[.int .i64 k, .int .i64 i, .int .u64 b, .string t, .slice l n c] 25)) := (Below.refl _ _).alloc (Nat.le_refl _) _
  have HF := Lib.hid hF
  have HS := Lib.hid hS
  have HLEN := Lib.hid hlen
  have HALL := Lib.hid hall
  clear hsz hF hS hlen hall ht0
  generalize hfm : fitsM k i b t.data.toList n = fm
  have HFM := Lib.hid hfm
  clear hfm
  go_enter Tryz.func100, Tryz.ntmps100
  go_upto_region 2 with (fail)
  generalize w.alloc (.cells #[.int .i64 k, .int .i64 i, .int .u64 b, .string t, .slice l n c] 25) = w0 at *
  have c0 := hW.cell 0 rfl
  have c1 := hW.cell 1 rfl
  have c2 := hW.cell 2 rfl
  have c3 := hW.cell 3 rfl
  have c4 := hW.cell 4 rfl
  have HB := Lib.hid hBW
  clear hW hBW
  go_upto_block 0 with (fail)
  go_cut [3, 4, 5, 6] from 10 (fun s3 s4 s5 s6 wx => wx = w0 ∧ ∃ wh bi wo pl, s3 = .bool wh ∧ s4 = .bool bi ∧ s5 = .bool wo ∧ s6 = .int .i64 pl ∧ fitsM k i b t.data.toList n = fits3 wh bi wo pl i b t.data.toList n)
  · by_cases hk : k = 0
    · subst hk
      go_wp2_with fail
      go_meet
      case rel => exact ⟨rfl, false, false, false, 0, rfl, rfl, rfl, rfl, by simp [fitsM, fits3, fits2, Bool.and_assoc, natE0]⟩
    by_cases hk : k = 1
    · subst hk
      go_wp2_with fail
      go_meet
      case rel => exact ⟨rfl, true, false, false, 0, rfl, rfl, rfl, rfl, by simp [fitsM, fits3, fits2, Bool.and_assoc, natE0]⟩
    by_cases hk : k = 2
    · subst hk
      go_wp2_with fail
      go_meet
      case rel => exact ⟨rfl, true, false, false, 0, rfl, rfl, rfl, rfl, by simp [fitsM, fits3, fits2, Bool.and_assoc, natE0]⟩
    by_cases hk : k = 3
    · subst hk
      go_wp2_with fail
      go_meet
      case rel => exact ⟨rfl, false, true, false, 0, rfl, rfl, rfl, rfl, by simp [fitsM, fits3, fits2, Bool.and_assoc, natE0]⟩
    by_cases hk : k = 4
    · subst hk
      go_wp2_with fail
      go_meet
      case rel => exact ⟨rfl, false, false, true, 0, rfl, rfl, rfl, rfl, by simp [fitsM, fits3, fits2, Bool.and_assoc, natE0]⟩
    by_cases hk : k = 5
    · subst hk
      go_wp2_with fail
      go_meet
      case rel => exact ⟨rfl, false, false, true, 0, rfl, rfl, rfl, rfl, by simp [fitsM, fits3, fits2, Bool.and_assoc, natE0]⟩
    by_cases hk : k = 7
    · subst hk
      go_wp2_with fail
      go_meet
      case rel => exact ⟨rfl, false, false, true, 0, rfl, rfl, rfl, rfl, by simp [fitsM, fits3, fits2, Bool.and_assoc, natE0]⟩
    by_cases hk : k = 8
    · subst hk
      go_wp2_with fail
      go_meet
      case rel => exact ⟨rfl, false, false, false, (-1), rfl, rfl, rfl, rfl, by simp [fitsM, fits3, fits2, Bool.and_assoc]⟩
    by_cases hk : k = 9
    · subst hk
      go_wp2_with fail
      go_meet
      case rel => exact ⟨rfl, false, false, false, 2, rfl, rfl, rfl, rfl, by simp [fitsM, fits3, fits2, Bool.and_assoc, natE2]⟩
    by_cases hk : k = 10
    · subst hk
      go_wp2_with fail
      go_meet
      case rel => exact ⟨rfl, true, false, true, 0, rfl, rfl, rfl, rfl, by simp [fitsM, fits3, fits2, Bool.and_assoc, natE0]⟩
    by_cases hk : k = 12
    · subst hk
      go_wp2_with fail
      go_meet
      case rel => exact ⟨rfl, false, false, false, 0, rfl, rfl, rfl, rfl, by simp [fitsM, fits3, fits2, Bool.and_assoc, natE0]⟩
    by_cases hk : k = 13
    · subst hk
      go_wp2_with fail
      go_meet
      case rel => exact ⟨rfl, false, false, false, 0, rfl, rfl, rfl, rfl, by simp [fitsM, fits3, fits2, Bool.and_assoc, natE0]⟩
    by_cases hk : k = 6
    · subst hk
      by_cases h0 : i = 0
      · subst h0
        go_wp2_with fail
        go_meet
        case rel => exact ⟨rfl, true, false, false, 0, rfl, rfl, rfl, rfl, by simp [fitsM, fits3, fits2, Bool.and_assoc, natE0]⟩
      · by_cases h1 : i = 1
        · subst h1
          go_wp2_with fail
          go_meet
          case rel => exact ⟨rfl, true, false, false, 0, rfl, rfl, rfl, rfl, by simp [fitsM, fits3, fits2, Bool.and_assoc, natE0]⟩
        · have hi0 : (i != 0) = true := by simp; omega
          have hi1 : (i != 1) = true := by simp; omega
          go_wp2_with fail
          go_ret
          exact ⟨by rw [← HFM.out]; simp [fitsM, h0, h1], HB.out⟩
    by_cases hk : k = 11
    · subst hk
      by_cases h0 : i < 1
      · go_wp2_with fail
        go_ret
        exact ⟨by rw [← HFM.out]; simp [fitsM]; omega, HB.out⟩
      · have h1 : 1 ≤ i := by omega
        go_wp2_with fail
        go_meet
        case rel => exact ⟨rfl, true, false, false, 1, rfl, rfl, rfl, rfl, by simp [fitsM, fits3, fits2, h1, Bool.and_assoc, natE1]⟩
    have h0 : (k == 0) = false := by simp; omega
    have h1 : (k == 1) = false := by simp; omega
    have h2 : (k == 2) = false := by simp; omega
    have h3 : (k == 3) = false := by simp; omega
    have h4 : (k == 4) = false := by simp; omega
    have h5 : (k == 5) = false := by simp; omega
    have h6 : (k == 6) = false := by simp; omega
    have h7 : (k == 7) = false := by simp; omega
    have h8 : (k == 8) = false := by simp; omega
    have h9 : (k == 9) = false := by simp; omega
    have h10 : (k == 10) = false := by simp; omega
    have h11 : (k == 11) = false := by simp; omega
    have h12 : (k == 12) = false := by simp; omega
    have h13 : (k == 13) = false := by simp; omega
    have hfit : fitsM k i b t.data.toList n = false := by
      have : ¬ (0 ≤ k ∧ k ≤ 13) := by omega
      unfold fitsM
      simp only [Bool.and_eq_false_iff]
      refine .inl (.inl (.inl (.inl (.inl (.inl (.inl ?_))))))
      simp; omega
    have HFIT := Lib.hid hfit
    clear hfit
    go_wp2_with fail
    go_ret
    exact ⟨by rw [← HFM.out, HFIT.out]; rfl, HB.out⟩
  · obtain ⟨rfl, wh, bi, wo, pl, rfl, rfl, rfl, rfl, hfit⟩ := hcut
    have HFIT := Lib.hid hfit
    have hts : (t.data.toList == []) = (t.toList == []) := by rw [Lib.toList_data]
    have HTS := Lib.hid hts
    clear hts hfit
    go_upto_region 32 with (fail)
    go_cut [85] from 44 to 84 (fun s85 wx => wx = wc ∧ ∃ nf, s85 = .bool nf ∧ fm = !nf)
    · cases wh
      · cases hi : (i == 0)
        · have hin : (i != 0) = true := by simp [bne, hi]
          go_wp2_with fail
          go_meet
          case rel => exact ⟨rfl, _, rfl, by rw [← HFM.out, HFIT.out]; simp [fits3, fits2, HTS.out, hi]⟩
        · have hin : (i != 0) = false := by simp [bne, hi]
          cases bi
          · cases hb : (b == 0)
            · have hbn : (b != 0) = true := by simp [bne, hb]
              go_wp2_with fail
              go_meet
              case rel => exact ⟨rfl, _, rfl, by rw [← HFM.out, HFIT.out]; simp [fits3, fits2, HTS.out, hi, hb]⟩
            · have hbn : (b != 0) = false := by simp [bne, hb]
              cases wo
              · cases ht : (t.toList == [])
                · have htn : (t.toList != []) = true := by simp [bne, ht]
                  go_wp2_with fail
                  go_meet
                  case rel => exact ⟨rfl, _, rfl, by rw [← HFM.out, HFIT.out]; simp [fits3, fits2, HTS.out, hi, hb, ht]⟩
                · have htn : (t.toList != []) = false := by simp [bne, ht]
                  by_cases hp0 : pl < 0
                  · have hp1 : ¬ (0 : Int) ≤ pl := by omega
                    by_cases hl : t.size ≤ 65535
                    · have hli : ¬ (65535 : Int) < (t.size : Int) := by omega
                      go_wp2_with fail
                      go_meet
                      case rel => exact ⟨rfl, _, rfl, by rw [← HFM.out, HFIT.out]; simp [fits3, fits2, HTS.out, hi, hb, ht, hp0, hl]⟩
                    · have hli : (65535 : Int) < (t.size : Int) := by omega
                      go_wp2_with fail
                      go_meet
                      case rel => exact ⟨rfl, _, rfl, by rw [← HFM.out, HFIT.out]; simp [fits3, fits2, HTS.out, hi, hb, ht, hp0, hl]⟩
                  · have hp1 : (0 : Int) ≤ pl := by omega
                    cases hn : ((n : Int) == pl)
                    · have hnn : ((n : Int) != pl) = true := by simp [bne, hn]
                      have hnp : ¬ (n : Int) = pl := by simpa using hn
                      go_wp2_with fail
                      go_meet
                      case rel => exact ⟨rfl, _, rfl, by rw [← HFM.out, HFIT.out]; simp [fits3, fits2, HTS.out, hi, hb, ht, hp0, hnp]⟩
                    · have hnn : ((n : Int) != pl) = false := by simp [bne, hn]
                      have hnp : (n : Int) = pl := by simpa using hn
                      by_cases hl : t.size ≤ 65535
                      · have hli : ¬ (65535 : Int) < (t.size : Int) := by omega
                        go_wp2_with fail
                        go_meet
                        case rel => exact ⟨rfl, _, rfl, by rw [← HFM.out, HFIT.out]; simp [fits3, fits2, HTS.out, hi, hb, ht, hnp, hl]⟩
                      · have hli : (65535 : Int) < (t.size : Int) := by omega
                        go_wp2_with fail
                        go_meet
                        case rel => exact ⟨rfl, _, rfl, by rw [← HFM.out, HFIT.out]; simp [fits3, fits2, HTS.out, hi, hb, ht, hnp, hl]⟩
              · by_cases hp0 : pl < 0
                · have hp1 : ¬ (0 : Int) ≤ pl := by omega
                  by_cases hl : t.size ≤ 65535
                  · have hli : ¬ (65535 : Int) < (t.size : Int) := by omega
                    go_wp2_with fail
                    go_meet
                    case rel => exact ⟨rfl, _, rfl, by rw [← HFM.out, HFIT.out]; simp [fits3, fits2, HTS.out, hi, hb, hp0, hl]⟩
                  · have hli : (65535 : Int) < (t.size : Int) := by omega
                    go_wp2_with fail
                    go_meet
                    case rel => exact ⟨rfl, _, rfl, by rw [← HFM.out, HFIT.out]; simp [fits3, fits2, HTS.out, hi, hb, hp0, hl]⟩
                · have hp1 : (0 : Int) ≤ pl := by omega
                  cases hn : ((n : Int) == pl)
                  · have hnn : ((n : Int) != pl) = true := by simp [bne, hn]
                    have hnp : ¬ (n : Int) = pl := by simpa using hn
                    go_wp2_with fail
                    go_meet
                    case rel => exact ⟨rfl, _, rfl, by rw [← HFM.out, HFIT.out]; simp [fits3, fits2, HTS.out, hi, hb, hp0, hnp]⟩
                  · have hnn : ((n : Int) != pl) = false := by simp [bne, hn]
                    have hnp : (n : Int) = pl := by simpa using hn
                    by_cases hl : t.size ≤ 65535
                    · have hli : ¬ (65535 : Int) < (t.size : Int) := by omega
                      go_wp2_with fail
                      go_meet
                      case rel => exact ⟨rfl, _, rfl, by rw [← HFM.out, HFIT.out]; simp [fits3, fits2, HTS.out, hi, hb, hnp, hl]⟩
                    · have hli : (65535 : Int) < (t.size : Int) := by omega
                      go_wp2_with fail
                      go_meet
                      case rel => exact ⟨rfl, _, rfl, by rw [← HFM.out, HFIT.out]; simp [fits3, fits2, HTS.out, hi, hb, hnp, hl]⟩
          · cases wo
            · cases ht : (t.toList == [])
              · have htn : (t.toList != []) = true := by simp [bne, ht]
                go_wp2_with fail
                go_meet
                case rel => exact ⟨rfl, _, rfl, by rw [← HFM.out, HFIT.out]; simp [fits3, fits2, HTS.out, hi, ht]⟩
              · have htn : (t.toList != []) = false := by simp [bne, ht]
                by_cases hp0 : pl < 0
                · have hp1 : ¬ (0 : Int) ≤ pl := by omega
                  by_cases hl : t.size ≤ 65535
                  · have hli : ¬ (65535 : Int) < (t.size : Int) := by omega
                    go_wp2_with fail
                    go_meet
                    case rel => exact ⟨rfl, _, rfl, by rw [← HFM.out, HFIT.out]; simp [fits3, fits2, HTS.out, hi, ht, hp0, hl]⟩
                  · have hli : (65535 : Int) < (t.size : Int) := by omega
                    go_wp2_with fail
                    go_meet
                    case rel => exact ⟨rfl, _, rfl, by rw [← HFM.out, HFIT.out]; simp [fits3, fits2, HTS.out, hi, ht, hp0, hl]⟩
                · have hp1 : (0 : Int) ≤ pl := by omega
                  cases hn : ((n : Int) == pl)
                  · have hnn : ((n : Int) != pl) = true := by simp [bne, hn]
                    have hnp : ¬ (n : Int) = pl := by simpa using hn
                    go_wp2_with fail
                    go_meet
                    case rel => exact ⟨rfl, _, rfl, by rw [← HFM.out, HFIT.out]; simp [fits3, fits2, HTS.out, hi, ht, hp0, hnp]⟩
                  · have hnn : ((n : Int) != pl) = false := by simp [bne, hn]
                    have hnp : (n : Int) = pl := by simpa using hn
                    by_cases hl : t.size ≤ 65535
                    · have hli : ¬ (65535 : Int) < (t.size : Int) := by omega
                      go_wp2_with fail
                      go_meet
                      case rel => exact ⟨rfl, _, rfl, by rw [← HFM.out, HFIT.out]; simp [fits3, fits2, HTS.out, hi, ht, hnp, hl]⟩
                    · have hli : (65535 : Int) < (t.size : Int) := by omega
                      go_wp2_with fail
                      go_meet
                      case rel => exact ⟨rfl, _, rfl, by rw [← HFM.out, HFIT.out]; simp [fits3, fits2, HTS.out, hi, ht, hnp, hl]⟩
            · by_cases hp0 : pl < 0
              · have hp1 : ¬ (0 : Int) ≤ pl := by omega
                by_cases hl : t.size ≤ 65535
                · have hli : ¬ (65535 : Int) < (t.size : Int) := by omega
                  go_wp2_with fail
                  go_meet
                  case rel => exact ⟨rfl, _, rfl, by rw [← HFM.out, HFIT.out]; simp [fits3, fits2, HTS.out, hi, hp0, hl]⟩
                · have hli : (65535 : Int) < (t.size : Int) := by omega
                  go_wp2_with fail
                  go_meet
                  case rel => exact ⟨rfl, _, rfl, by rw [← HFM.out, HFIT.out]; simp [fits3, fits2, HTS.out, hi, hp0, hl]⟩
              · have hp1 : (0 : Int) ≤ pl := by omega
                cases hn : ((n : Int) == pl)
                · have hnn : ((n : Int) != pl) = true := by simp [bne, hn]
                  have hnp : ¬ (n : Int) = pl := by simpa using hn
                  go_wp2_with fail
                  go_meet
                  case rel => exact ⟨rfl, _, rfl, by rw [← HFM.out, HFIT.out]; simp [fits3, fits2, HTS.out, hi, hp0, hnp]⟩
                · have hnn : ((n : Int) != pl) = false := by simp [bne, hn]
                  have hnp : (n : Int) = pl := by simpa using hn
                  by_cases hl : t.size ≤ 65535
                  · have hli : ¬ (65535 : Int) < (t.size : Int) := by omega
                    go_wp2_with fail
                    go_meet
                    case rel => exact ⟨rfl, _, rfl, by rw [← HFM.out, HFIT.out]; simp [fits3, fits2, HTS.out, hi, hnp, hl]⟩
                  · have hli : (65535 : Int) < (t.size : Int) := by omega
                    go_wp2_with fail
                    go_meet
                    case rel => exact ⟨rfl, _, rfl, by rw [← HFM.out, HFIT.out]; simp [fits3, fits2, HTS.out, hi, hnp, hl]⟩
      · cases bi
        · cases hb : (b == 0)
          · have hbn : (b != 0) = true := by simp [bne, hb]
            go_wp2_with fail
            go_meet
            case rel => exact ⟨rfl, _, rfl, by rw [← HFM.out, HFIT.out]; simp [fits3, fits2, HTS.out, hb]⟩
          · have hbn : (b != 0) = false := by simp [bne, hb]
            cases wo
            · cases ht : (t.toList == [])
              · have htn : (t.toList != []) = true := by simp [bne, ht]
                go_wp2_with fail
                go_meet
                case rel => exact ⟨rfl, _, rfl, by rw [← HFM.out, HFIT.out]; simp [fits3, fits2, HTS.out, hb, ht]⟩
              · have htn : (t.toList != []) = false := by simp [bne, ht]
                by_cases hp0 : pl < 0
                · have hp1 : ¬ (0 : Int) ≤ pl := by omega
                  by_cases hl : t.size ≤ 65535
                  · have hli : ¬ (65535 : Int) < (t.size : Int) := by omega
                    go_wp2_with fail
                    go_meet
                    case rel => exact ⟨rfl, _, rfl, by rw [← HFM.out, HFIT.out]; simp [fits3, fits2, HTS.out, hb, ht, hp0, hl]⟩
                  · have hli : (65535 : Int) < (t.size : Int) := by omega
                    go_wp2_with fail
                    go_meet
                    case rel => exact ⟨rfl, _, rfl, by rw [← HFM.out, HFIT.out]; simp [fits3, fits2, HTS.out, hb, ht, hp0, hl]⟩
                · have hp1 : (0 : Int) ≤ pl := by omega
                  cases hn : ((n : Int) == pl)
                  · have hnn : ((n : Int) != pl) = true := by simp [bne, hn]
                    have hnp : ¬ (n : Int) = pl := by simpa using hn
                    go_wp2_with fail
                    go_meet
                    case rel => exact ⟨rfl, _, rfl, by rw [← HFM.out, HFIT.out]; simp [fits3, fits2, HTS.out, hb, ht, hp0, hnp]⟩
                  · have hnn : ((n : Int) != pl) = false := by simp [bne, hn]
                    have hnp : (n : Int) = pl := by simpa using hn
                    by_cases hl : t.size ≤ 65535
                    · have hli : ¬ (65535 : Int) < (t.size : Int) := by omega
                      go_wp2_with fail
                      go_meet
                      case rel => exact ⟨rfl, _, rfl, by rw [← HFM.out, HFIT.out]; simp [fits3, fits2, HTS.out, hb, ht, hnp, hl]⟩
                    · have hli : (65535 : Int) < (t.size : Int) := by omega
                      go_wp2_with fail
                      go_meet
                      case rel => exact ⟨rfl, _, rfl, by rw [← HFM.out, HFIT.out]; simp [fits3, fits2, HTS.out, hb, ht, hnp, hl]⟩
            · by_cases hp0 : pl < 0
              · have hp1 : ¬ (0 : Int) ≤ pl := by omega
                by_cases hl : t.size ≤ 65535
                · have hli : ¬ (65535 : Int) < (t.size : Int) := by omega
                  go_wp2_with fail
                  go_meet
                  case rel => exact ⟨rfl, _, rfl, by rw [← HFM.out, HFIT.out]; simp [fits3, fits2, HTS.out, hb, hp0, hl]⟩
                · have hli : (65535 : Int) < (t.size : Int) := by omega
                  go_wp2_with fail
                  go_meet
                  case rel => exact ⟨rfl, _, rfl, by rw [← HFM.out, HFIT.out]; simp [fits3, fits2, HTS.out, hb, hp0, hl]⟩
              · have hp1 : (0 : Int) ≤ pl := by omega
                cases hn : ((n : Int) == pl)
                · have hnn : ((n : Int) != pl) = true := by simp [bne, hn]
                  have hnp : ¬ (n : Int) = pl := by simpa using hn
                  go_wp2_with fail
                  go_meet
                  case rel => exact ⟨rfl, _, rfl, by rw [← HFM.out, HFIT.out]; simp [fits3, fits2, HTS.out, hb, hp0, hnp]⟩
                · have hnn : ((n : Int) != pl) = false := by simp [bne, hn]
                  have hnp : (n : Int) = pl := by simpa using hn
                  by_cases hl : t.size ≤ 65535
                  · have hli : ¬ (65535 : Int) < (t.size : Int) := by omega
                    go_wp2_with fail
                    go_meet
                    case rel => exact ⟨rfl, _, rfl, by rw [← HFM.out, HFIT.out]; simp [fits3, fits2, HTS.out, hb, hnp, hl]⟩
                  · have hli : (65535 : Int) < (t.size : Int) := by omega
                    go_wp2_with fail
                    go_meet
                    case rel => exact ⟨rfl, _, rfl, by rw [← HFM.out, HFIT.out]; simp [fits3, fits2, HTS.out, hb, hnp, hl]⟩
        · cases wo
          · cases ht : (t.toList == [])
            · have htn : (t.toList != []) = true := by simp [bne, ht]
              go_wp2_with fail
              go_meet
              case rel => exact ⟨rfl, _, rfl, by rw [← HFM.out, HFIT.out]; simp [fits3, fits2, HTS.out, ht]⟩
            · have htn : (t.toList != []) = false := by simp [bne, ht]
              by_cases hp0 : pl < 0
              · have hp1 : ¬ (0 : Int) ≤ pl := by omega
                by_cases hl : t.size ≤ 65535
                · have hli : ¬ (65535 : Int) < (t.size : Int) := by omega
                  go_wp2_with fail
                  go_meet
                  case rel => exact ⟨rfl, _, rfl, by rw [← HFM.out, HFIT.out]; simp [fits3, fits2, HTS.out, ht, hp0, hl]⟩
                · have hli : (65535 : Int) < (t.size : Int) := by omega
                  go_wp2_with fail
                  go_meet
                  case rel => exact ⟨rfl, _, rfl, by rw [← HFM.out, HFIT.out]; simp [fits3, fits2, HTS.out, ht, hp0, hl]⟩
              · have hp1 : (0 : Int) ≤ pl := by omega
                cases hn : ((n : Int) == pl)
                · have hnn : ((n : Int) != pl) = true := by simp [bne, hn]
                  have hnp : ¬ (n : Int) = pl := by simpa using hn
                  go_wp2_with fail
                  go_meet
                  case rel => exact ⟨rfl, _, rfl, by rw [← HFM.out, HFIT.out]; simp [fits3, fits2, HTS.out, ht, hp0, hnp]⟩
                · have hnn : ((n : Int) != pl) = false := by simp [bne, hn]
                  have hnp : (n : Int) = pl := by simpa using hn
                  by_cases hl : t.size ≤ 65535
                  · have hli : ¬ (65535 : Int) < (t.size : Int) := by omega
                    go_wp2_with fail
                    go_meet
                    case rel => exact ⟨rfl, _, rfl, by rw [← HFM.out, HFIT.out]; simp [fits3, fits2, HTS.out, ht, hnp, hl]⟩
                  · have hli : (65535 : Int) < (t.size : Int) := by omega
                    go_wp2_with fail
                    go_meet
                    case rel => exact ⟨rfl, _, rfl, by rw [← HFM.out, HFIT.out]; simp [fits3, fits2, HTS.out, ht, hnp, hl]⟩
          · by_cases hp0 : pl < 0
            · have hp1 : ¬ (0 : Int) ≤ pl := by omega
              by_cases hl : t.size ≤ 65535
              · have hli : ¬ (65535 : Int) < (t.size : Int) := by omega
                go_wp2_with fail
                go_meet
                case rel => exact ⟨rfl, _, rfl, by rw [← HFM.out, HFIT.out]; simp [fits3, fits2, HTS.out, hp0, hl]⟩
              · have hli : (65535 : Int) < (t.size : Int) := by omega
                go_wp2_with fail
                go_meet
                case rel => exact ⟨rfl, _, rfl, by rw [← HFM.out, HFIT.out]; simp [fits3, fits2, HTS.out, hp0, hl]⟩
            · have hp1 : (0 : Int) ≤ pl := by omega
              cases hn : ((n : Int) == pl)
              · have hnn : ((n : Int) != pl) = true := by simp [bne, hn]
                have hnp : ¬ (n : Int) = pl := by simpa using hn
                go_wp2_with fail
                go_meet
                case rel => exact ⟨rfl, _, rfl, by rw [← HFM.out, HFIT.out]; simp [fits3, fits2, HTS.out, hp0, hnp]⟩
              · have hnn : ((n : Int) != pl) = false := by simp [bne, hn]
                have hnp : (n : Int) = pl := by simpa using hn
                by_cases hl : t.size ≤ 65535
                · have hli : ¬ (65535 : Int) < (t.size : Int) := by omega
                  go_wp2_with fail
                  go_meet
                  case rel => exact ⟨rfl, _, rfl, by rw [← HFM.out, HFIT.out]; simp [fits3, fits2, HTS.out, hnp, hl]⟩
                · have hli : (65535 : Int) < (t.size : Int) := by omega
                  go_wp2_with fail
                  go_meet
                  case rel => exact ⟨rfl, _, rfl, by rw [← HFM.out, HFIT.out]; simp [fits3, fits2, HTS.out, hnp, hl]⟩
    · obtain ⟨rfl, nf, rfl, hnf⟩ := hcut
      clear c0 c1 c2 c3
      cases nf
      rotate_left
      · replace hnf : fm = false := hnf
        subst hnf
        go_wp2_with fail
        go_ret
        exact ⟨rfl, HB.out⟩
      · replace hnf : fm = true := hnf
        subst hnf
        go_wp2_with fail
        go_loopw [89] (fun t89 wr => RTRel kids w t89 wr ∧ wr.cell? ⟨w.heap.size, 4, none⟩ = some (.slice l n c) ∧ Below wc.heap.size wc wr) (fun t89 _ => n - (intOf t89).toNat)
        case atStart => exact ⟨⟨.nil, kids, rfl, rfl, HB.out, rfl⟩, c4, Below.refl _ _⟩
        case round =>
          obtain ⟨⟨dn, rest, rfl, hk, hB, hq⟩, c4r, hB1⟩ := hrel
          have hlen := HLEN.out
          rw [hk, Fo.len_app] at hlen
          have HBw := Lib.hid hB
          have HB1 := Lib.hid hB1
          have hFr : FoAt S wr kids l n c := HF.out.same (fun x hx hlt => hB.block x (HS.out x hx)) (fun x hx _ => hx)
          clear hB hB1 c4
          cases rest with
          | nil =>
            have hj : ¬ (dn.len : Int) < (n : Int) := by have : Fo.len .nil = 0 := rfl; omega
            have HR := Lib.hid hq
            clear hq hk hlen hFr
            go_wp2_with fail
            go_ret
            exact ⟨by rw [HR.out]; rfl, HBw.out⟩
          | cons k2 i2 b2 t2 ks rest2 =>
            have hlr : (Fo.cons k2 i2 b2 t2 ks rest2).len = rest2.len + 1 := rfl
            have hjn : dn.len < n := by omega
            have hj : (dn.len : Int) < (n : Int) := by omega
            obtain ⟨cs, ⟨hRd, hSx⟩, hAt⟩ := hFr
            have hHead := hRd.at (k := dn.len) hjn
            have hnb : n ≤ 9223372036854775807 := by have h1 := hRd.le; have h2 := hRd.max; unfold maxLen at h2; omega
            rw [hk] at hAt
            obtain ⟨cs1, cs2, rfl, hA1, hA2⟩ := At.split dn hAt
            have hl1 := At.len dn hA1
            obtain ⟨a2, n2, cap2, ks2, cs', rfl, hKid, hKidAt, _⟩ := hA2
            obtain ⟨bb2, off, rfl, hlt, hc⟩ := hHead
            have hcell : ∀ i, i < 5 → wr.cell? ⟨bb2, off + dn.len * 5 + i, none⟩ = [Value.int .i64 k2, .int .i64 i2, .int .u64 b2, .string ⟨t2.toArray⟩, .slice a2 n2 cap2][i]? := fun i hi => by
              rw [hc i hi, List.getElem?_append_right (by omega), hl1, Nat.add_sub_cancel_left]
              match i, hi with
              | 0, _ => rfl
              | 1, _ => rfl
              | 2, _ => rfl
              | 3, _ => rfl
              | 4, _ => rfl
            have hkF : FoAt S wr ks a2 n2 cap2 := ⟨ks2, hKid, hKidAt⟩
            have e0 := hcell 0 (by omega)
            have e1 := hcell 1 (by omega)
            have e2 := hcell 2 (by omega)
            have e3 := hcell 3 (by omega)
            have e4 := hcell 4 (by omega)
            simp only [List.getElem?_cons_zero, List.getElem?_cons_succ, Nat.add_zero] at e0 e1 e2 e3 e4
            have hROK : RTOK ks := by
              have hal := HALL.out
              rw [hk] at hal
              exact (Fo.All.split dn hal).1
            have hkl := hkF.len
            have HC := Lib.hid (hROK k2 i2 b2 t2 a2 n2 cap2 S wr hkF (fun x hx => Nat.lt_of_lt_of_le (HS.out x hx) HBw.out.size))
            have hrq : rightM (.cons k2 i2 b2 t2 ks rest2) = ((fitsM k2 i2 b2 t2 n2 && rightM ks) && rightM rest2) := by rw [rightM, hkl]
            rw [hrq] at hq
            generalize (fitsM k2 i2 b2 t2 n2 && rightM ks) = fk at *
            have HKK := Lib.hid hk
            have HJ := Lib.hid hjn
            have HQ := Lib.hid hq
            clear hkF hROK hk hcell hc hRd hSx hAt hA1 hKid hKidAt hl1 hlen hlr hlt hjn hq hrq hkl
            generalize hjj : dn.len = j at *
            have HJJ := Lib.hid hjj
            clear hjj
            cases fk
            · go_wp2_with (go_at_call 100; (with_reducible refine HC.out.mono ?_); rintro e5 w5 ⟨rfl, hB5⟩)
              go_ret
              exact ⟨by rw [HQ.out]; rfl, HBw.out.trans (hB5.mono HBw.out.size)⟩
            · go_wp2_with (go_at_call 100; (with_reducible refine HC.out.mono ?_); rintro e5 w5 ⟨rfl, hB5⟩; have HB5 := Lib.hid hB5; clear hB5)
              go_roundw
              case rel =>
                refine ⟨⟨dn.app (.cons k2 i2 b2 t2 ks .nil), rest2, ?_, ?_, HBw.out.trans (HB5.out.mono HBw.out.size), by rw [HQ.out]; simp⟩, cellAt HB5.out c4r, HB1.out.trans (HB5.out.mono HB1.out.size)⟩
                · rw [Fo.len_app, HJJ.out, show (Fo.cons k2 i2 b2 t2 ks .nil).len = 1 from rfl]; go_num
                · rw [Fo.app_assoc]; exact HKK.out
              case measure => simp [intOf]; have := HJ.out; omega
theorem rightAll : ∀ f : Fo, f.All RTOK
  | .nil => trivial
  | .cons _ _ _ _ kids rest => ⟨rightN (rightAll kids), rightAll rest⟩
theorem rightG (kids : Fo) : RTOK kids := rightN (rightAll kids)
end Go.Proofs.YtbldidiibkcelaaGreatDoor

/-
  Which values are valid: by size and height (plain laws). Not a statement of the seat.
-/
namespace Go.Proofs.YtbldidiibkcelaaGreatDoor

def sizeF : Fo → Nat
  | .nil => 0
  | .cons _ _ _ _ kids rest => 1 + sizeF kids + sizeF rest
def hiF : Fo → Nat
  | .nil => 0
  | .cons _ _ _ _ kids rest => max (hiF kids + 1) (hiF rest)
theorem look_ok : ∀ (f : Fo) (deep p m : Nat), p + sizeF f ≤ 4096 → deep + hiF f ≤ 17 → rightM f = true → deep ≤ m + 1 → lookM f deep p m = (true, p + sizeF f, max m (deep + hiF f - 1))
  | .nil, deep, p, m, h1, h2, h3, h4 => by
    rw [lookM]
    simp only [sizeF, hiF, Nat.add_zero]
    rw [show max m (deep - 1) = m by omega]
  | .cons k i b t kids rest, deep, p, m, h1, h2, h3, h4 => by
    simp only [sizeF, hiF] at h1 h2 ⊢
    simp only [rightM, Bool.and_eq_true] at h3
    rw [lookM, if_neg (by rw [h3.1.1]; simp; omega), look_ok kids (deep + 1) (p + 1) (max m deep) (by omega) (by omega) h3.1.2 (by omega)]
    show lookM rest deep _ _ = _
    rw [look_ok rest deep _ _ (by omega) (by omega) h3.2 (by omega)]
    congr 2
    · omega
    · omega
theorem look_bad : ∀ (f : Fo) (deep p m : Nat), p ≤ 4096 → deep ≤ 17 → deep ≤ m + 1 → ¬ (p + sizeF f ≤ 4096 ∧ deep + hiF f ≤ 17 ∧ rightM f = true) → (lookM f deep p m).1 = false
  | .nil, deep, p, m, h1, h2, _, h => absurd ⟨by simpa [sizeF] using h1, by simpa [hiF] using h2, rfl⟩ h
  | .cons k i b t kids rest, deep, p, m, h1, h2, h4, h => by
    rw [lookM]
    split
    · rfl
    · rename_i hc
      have hft : fitsM k i b t kids.len = true := by
        cases hf : fitsM k i b t kids.len
        · exact absurd (.inr (.inr hf)) hc
        · rfl
      by_cases hk : (p + 1) + sizeF kids ≤ 4096 ∧ (deep + 1) + hiF kids ≤ 17 ∧ rightM kids = true
      · rw [look_ok kids (deep + 1) (p + 1) (max m deep) hk.1 hk.2.1 hk.2.2 (by omega)]
        show (lookM rest deep _ _).1 = false
        refine look_bad rest deep _ _ (by omega) h2 (by omega) (fun hr => h ?_)
        simp only [sizeF, hiF, rightM, hft, hk.2.2, hr.2.2, Bool.and_self, and_true]
        omega
      · have := look_bad kids (deep + 1) (p + 1) (max m deep) (by omega) (by omega) (by omega) hk
        rcases hl : lookM kids (deep + 1) (p + 1) (max m deep) with ⟨r, p', m'⟩
        rw [hl] at this
        cases r
        · rfl
        · cases this
theorem cnt_ok : ∀ (f : Fo) (deep left n most : Nat), n + sizeF f ≤ left → deep + hiF f ≤ 16 → deep ≤ most → most ≤ 16 → cntL f deep left n most = (n + sizeF f, max most (deep + hiF f))
  | .nil, deep, left, n, most, h1, h2, h3, h4 => by
    rw [cntL]
    simp only [sizeF, hiF, Nat.add_zero]
    rw [show max most deep = most by omega]
  | .cons k i b t kids rest, deep, left, n, most, h1, h2, h3, h4 => by
    simp only [sizeF, hiF] at h1 h2 ⊢
    have hr : cntM kids (deep + 1) (left - n) = (1 + sizeF kids, deep + 1 + hiF kids) := by
      unfold cntM
      rw [if_neg (by omega), cnt_ok kids (deep + 1) (left - n) 1 (deep + 1) (by omega) (by omega) (Nat.le_refl _) (by omega)]
      congr 1
      omega
    rw [cntL_cons, hr]
    rw [if_neg (by show ¬ (left < n + (1 + sizeF kids) ∨ 16 < max most (deep + 1 + hiF kids)); omega)]
    rw [cnt_ok rest deep left _ _ (by show n + (1 + sizeF kids) + _ ≤ _; omega) (by omega) (by show deep ≤ max most (deep + 1 + hiF kids); omega) (by show max most (deep + 1 + hiF kids) ≤ 16; omega)]
    show (n + (1 + sizeF kids) + sizeF rest, max (max most (deep + 1 + hiF kids)) (deep + hiF rest)) = _
    congr 1
    · omega
    · omega
theorem cnt_bad : ∀ (f : Fo) (deep left n most : Nat), n ≤ left → left ≤ 4096 → deep ≤ most → most ≤ 16 → ¬ (n + sizeF f ≤ left ∧ deep + hiF f ≤ 16) → (cntL f deep left n most).1 = 4097
  | .nil, deep, left, n, most, h1, _, h3, h4, h => absurd ⟨by simpa [sizeF] using h1, by simp [hiF]; omega⟩ h
  | .cons k i b t kids rest, deep, left, n, most, h1, h2, h3, h4, h => by
    rw [cntL_cons]
    by_cases hc : 16 < deep + 1 ∨ left - n = 0
    · have hr : cntM kids (deep + 1) (left - n) = (4097, deep + 1) := by unfold cntM; rw [if_pos hc]
      rw [hr, if_pos (by left; show left < n + 4097; omega)]
    · by_cases hk : 1 + sizeF kids ≤ left - n ∧ deep + 1 + hiF kids ≤ 16
      · have hr : cntM kids (deep + 1) (left - n) = (1 + sizeF kids, max (deep + 1) (deep + 1 + hiF kids)) := by
          unfold cntM
          rw [if_neg hc, cnt_ok kids (deep + 1) (left - n) 1 (deep + 1) hk.1 hk.2 (Nat.le_refl _) (by omega)]
        rw [hr]
        split
        · rfl
        · refine cnt_bad rest deep left _ _ (by show n + (1 + sizeF kids) ≤ left; omega) h2 (by show deep ≤ max most _; omega) (by show max most (max (deep + 1) (deep + 1 + hiF kids)) ≤ 16; omega) (fun hh => h ?_)
          replace hh : n + (1 + sizeF kids) + sizeF rest ≤ left ∧ deep + hiF rest ≤ 16 := hh
          simp only [sizeF, hiF]
          omega
      · have hr : (cntM kids (deep + 1) (left - n)).1 = 4097 := by
          unfold cntM
          rw [if_neg hc]
          exact cnt_bad kids (deep + 1) (left - n) 1 (deep + 1) (by omega) (by omega) (Nat.le_refl _) (by omega) hk
        rw [hr, if_pos (by left; omega)]
/-- the document's Valid -/
def rvalidM (d : Dt) : Bool := decide ((cntM d.l 1 4096).1 ≤ 4096) && (decide ((cntM d.l 1 4096).2 ≤ 16) && (fitsM d.k d.i d.b d.t d.l.len && rightM d.l))
def okD (d : Dt) : Prop := 1 + sizeF d.l ≤ 4096 ∧ 1 + hiF d.l ≤ 16 ∧ rightM d.fo = true
theorem right_fo (d : Dt) : rightM d.fo = (fitsM d.k d.i d.b d.t d.l.len && rightM d.l) := by simp [Dt.fo, rightM]
theorem valid_ok {d : Dt} (h : okD d) : validD d = true ∧ rvalidM d = true ∧ (lookM d.fo 1 0 0).2.1 = (cntM d.l 1 4096).1 ∧ (lookM d.fo 1 0 0).2.2 = (cntM d.l 1 4096).2 := by
  obtain ⟨h1, h2, h3⟩ := h
  have hs : sizeF d.fo = 1 + sizeF d.l := by simp [Dt.fo, sizeF]
  have hh : hiF d.fo = hiF d.l + 1 := by simp [Dt.fo, hiF]
  have hl := look_ok d.fo 1 0 0 (by omega) (by omega) h3 (by omega)
  have hc : cntM d.l 1 4096 = (1 + sizeF d.l, max 1 (1 + hiF d.l)) := by
    unfold cntM
    rw [if_neg (by omega), cnt_ok d.l 1 4096 1 1 h1 h2 (Nat.le_refl _) (by omega)]
  refine ⟨by unfold validD; rw [hl], ?_, ?_, ?_⟩
  · unfold rvalidM
    rw [hc, ← right_fo, h3]
    simp
    omega
  · rw [hl, hc]; show 0 + sizeF d.fo = 1 + sizeF d.l; omega
  · rw [hl, hc]; show max 0 (1 + hiF d.fo - 1) = max 1 (1 + hiF d.l); omega
theorem valid_bad {d : Dt} (h : ¬ okD d) : validD d = false ∧ rvalidM d = false := by
  have hs : sizeF d.fo = 1 + sizeF d.l := by simp [Dt.fo, sizeF]
  have hh : hiF d.fo = hiF d.l + 1 := by simp [Dt.fo, hiF]
  constructor
  · unfold validD
    refine look_bad d.fo 1 0 0 (by omega) (by omega) (by omega) (fun hx => h ⟨by omega, by omega, hx.2.2⟩)
  · unfold rvalidM
    by_cases hc : 1 + sizeF d.l ≤ 4096 ∧ 1 + hiF d.l ≤ 16
    · have hr : rightM d.fo = false := by
        cases hr : rightM d.fo
        · rfl
        · exact absurd ⟨hc.1, hc.2, hr⟩ h
      rw [right_fo] at hr
      rw [hr]
      simp
    · have : (cntM d.l 1 4096).1 = 4097 := by
        unfold cntM
        rw [if_neg (by omega)]
        exact cnt_bad d.l 1 4096 1 1 (by omega) (by omega) (Nat.le_refl _) (by omega) hc
      rw [this]
      rfl
theorem valid_eq (d : Dt) : validD d = rvalidM d := by
  by_cases h : okD d
  · rw [(valid_ok h).1, (valid_ok h).2.1]
  · rw [(valid_bad h).1, (valid_bad h).2]
end Go.Proofs.YtbldidiibkcelaaGreatDoor

/-
  Valid and Parts of the code and of the document; the law DatumValid (walks). Not a statement of the seat.
-/
namespace Go.Proofs.YtbldidiibkcelaaGreatDoor
open Go.RowKit

def boxD (w : World) (d : Dt) (l : Option Addr) (n c : Nat) : World := w.alloc (.cells #[.int .i64 d.k, .int .i64 d.i, .int .u64 d.b, .string ⟨d.t.toArray⟩, .slice l n c] 25)
def vsD (d : Dt) (l : Option Addr) (n c : Nat) : List Value := [.int .i64 d.k, .int .i64 d.i, .int .u64 d.b, .string ⟨d.t.toArray⟩, .slice l n c]
theorem boxD_blk (w : World) (d : Dt) (l : Option Addr) (n c : Nat) : Blk (boxD w d l n c) w.heap.size (vsD d l n c) := Blk.new w _ _
theorem boxD_below (w : World) (d : Dt) (l : Option Addr) (n c : Nat) : Below w.heap.size w (boxD w d l n c) := (Below.refl _ _).alloc (Nat.le_refl _) _
set_option maxRecDepth 100000 in
theorem rvalidN {S : Nat → Prop} {d : Dt} {l : Option Addr} {n c : Nat} {w : World} (hF : FoAt S w d.l l n c) (hS : ∀ x, S x → x < w.heap.size) :
    Calls Tryz.prog 77 #[.agg #[.int .i64 d.k, .int .i64 d.i, .int .u64 d.b, .string ⟨d.t.toArray⟩, .slice l n c]] w (fun e w' => e = .returned (.bool (rvalidM d)) ∧ Below w.heap.size w w') := by
  have hW := boxD_blk w d l n c
  have HBW := Lib.hid (boxD_below w d l n c)
  have hlen := hF.len
  have HF := Lib.hid hF
  have HS := Lib.hid hS
  have HC := Lib.hid (countG d.l d.k d.i d.b d.t l n c S 1 4096 (boxD w d l n c) (hF.same (fun x hx hlt => HBW.out.block x hlt) (fun x hx _ => hx)) (fun x hx => Nat.lt_of_lt_of_le (hS x hx) HBW.out.size) (by omega) (by omega))
  generalize hr : rvalidM d = rv
  unfold rvalidM at hr
  rw [hlen] at hr
  have hle := cntM_le d.l 1 4096 (by omega)
  generalize cntM d.l 1 4096 = r at *
  obtain ⟨r1, r2⟩ := r
  replace hr : (decide (r1 ≤ 4096) && (decide (r2 ≤ 16) && (fitsM d.k d.i d.b d.t n && rightM d.l))) = rv := hr
  have HR := Lib.hid hr
  have HSB := Lib.hid (boxD_below w d l n c)
  clear hF hS hr hlen hle
  go_enter Tryz.func77, Tryz.ntmps77
  go_upto_region 1 with (fail)
  change Code.wp _ _ _ _ (boxD w d l n c)
  generalize boxD w d l n c = w1 at *
  have b0 := hW.cell 0 rfl
  have b1 := hW.cell 1 rfl
  have b2 := hW.cell 2 rfl
  have b3 := hW.cell 3 rfl
  have b4 := hW.cell 4 rfl
  have HW := Lib.hid hW
  clear hW
  by_cases h1 : r1 ≤ 4096
  · have h1i : (r1 : Int) ≤ 4096 := by omega
    by_cases h2 : r2 ≤ 16
    · have h2i : (r2 : Int) ≤ 16 := by omega
      go_wp2_with (first
        | (go_at_call 99; refine HC.out.mono ?_; rintro e2 w2 ⟨rfl, hB⟩
           have x0 := cellAt hB b0; have x1 := cellAt hB b1; have x2 := cellAt hB b2; have x3 := cellAt hB b3; have x4 := cellAt hB b4
           have HB2 := Lib.hid (HBW.out.trans (hB.mono HBW.out.size))
           have HC3 := Lib.hid (rightG d.l d.k d.i d.b d.t l n c S w2 (HF.out.same (fun x hx hlt => HB2.out.block x hlt) (fun x hx _ => hx)) (fun x hx => Nat.lt_of_lt_of_le (HS.out x hx) HB2.out.size))
           clear hB b0 b1 b2 b3 b4)
        | (go_at_call 100; (with_reducible refine HC3.out.mono ?_); rintro e3 w3 ⟨rfl, hB⟩; have HB3 := Lib.hid (HB2.out.trans (hB.mono HB2.out.size)); clear hB))
      go_ret
      exact ⟨by rw [← HR.out]; simp [h1, h2], HB3.out⟩
    · have h2i : ¬ (r2 : Int) ≤ 16 := by omega
      go_wp2_with (go_at_call 99; refine HC.out.mono ?_; rintro e2 w2 ⟨rfl, hB⟩; have HB2 := Lib.hid (HBW.out.trans (hB.mono HBW.out.size)); clear hB b0 b1 b2 b3 b4)
      go_ret
      exact ⟨by rw [← HR.out]; simp [h2], HB2.out⟩
  · have h1i : ¬ (r1 : Int) ≤ 4096 := by omega
    go_wp2_with (go_at_call 99; refine HC.out.mono ?_; rintro e2 w2 ⟨rfl, hB⟩; have HB2 := Lib.hid (HBW.out.trans (hB.mono HBW.out.size)); clear hB b0 b1 b2 b3 b4)
    go_ret
    exact ⟨by rw [← HR.out]; simp [h1], HB2.out⟩
theorem rpartsN {S : Nat → Prop} {d : Dt} {l : Option Addr} {n c : Nat} {w : World} (hF : FoAt S w d.l l n c) (hS : ∀ x, S x → x < w.heap.size) :
    Calls Tryz.prog 78 #[.agg #[.int .i64 d.k, .int .i64 d.i, .int .u64 d.b, .string ⟨d.t.toArray⟩, .slice l n c]] w (CP w (cntM d.l 1 4096)) := by
  have hW := boxD_blk w d l n c
  have HBW := Lib.hid (boxD_below w d l n c)
  have HC := Lib.hid (countG d.l d.k d.i d.b d.t l n c S 1 4096 (boxD w d l n c) (hF.same (fun x hx hlt => HBW.out.block x hlt) (fun x hx _ => hx)) (fun x hx => Nat.lt_of_lt_of_le (hS x hx) HBW.out.size) (by omega) (by omega))
  clear hF hS
  go_enter Tryz.func78, Tryz.ntmps78
  go_upto_region 1 with (fail)
  change Code.wp _ _ _ _ (boxD w d l n c)
  generalize boxD w d l n c = w1 at *
  have b0 := hW.cell 0 rfl
  have b1 := hW.cell 1 rfl
  have b2 := hW.cell 2 rfl
  have b3 := hW.cell 3 rfl
  have b4 := hW.cell 4 rfl
  clear hW
  generalize cntM d.l 1 4096 = r at *
  obtain ⟨r1, r2⟩ := r
  go_wp2_with (go_at_call 99; refine HC.out.mono ?_; rintro e2 w2 ⟨rfl, hB⟩; have HB2 := Lib.hid (HBW.out.trans (hB.mono HBW.out.size)); clear hB b0 b1 b2 b3 b4)
  go_ret2
  exact ⟨rfl, HB2.out⟩
set_option maxRecDepth 100000 in
theorem partsN {S : Nat → Prop} {d : Dt} {l : Option Addr} {n c : Nat} {w : World} (hF : FoAt S w d.l l n c) (hS : ∀ x, S x → x < w.heap.size) :
    Calls Tryz.prog 87 #[.agg #[.int .i64 d.k, .int .i64 d.i, .int .u64 d.b, .string ⟨d.t.toArray⟩, .slice l n c]] w (CP w ((lookM d.fo 1 0 0).2.1, (lookM d.fo 1 0 0).2.2)) := by
  have hW := Lib.hid (v3_facts w d l n c)
  have HF := Lib.hid hF
  have HS := Lib.hid hS
  clear hF hS
  go_enter Tryz.func87, Tryz.ntmps87
  go_upto_region 2 with (fail)
  change Code.wp _ _ _ _ (v3 w d l n c)
  generalize hv3 : v3 w d l n c = w3 at *
  have b0 := hW.out.1.cell 0 rfl
  have b1 := hW.out.1.cell 1 rfl
  have b2 := hW.out.1.cell 2 rfl
  have b3 := hW.out.1.cell 3 rfl
  have b4 := hW.out.1.cell 4 rfl
  have HC := Lib.hid (lookG d.l d.k d.i d.b d.t l n c S (w.heap.size + 1) (w.heap.size + 1 + 1) 0 0 1 w3 (HF.out.same (fun x hx hlt => hW.out.2.2.2.block x hlt) (fun x hx _ => hx)) hW.out.2.1 hW.out.2.2.1 (by omega)
    (fun h => by have := HS.out _ h; omega) (fun h => by have := HS.out _ h; omega) (by omega) (by omega))
  rw [show Fo.cons d.k d.i d.b d.t d.l .nil = d.fo from rfl] at HC
  clear hv3
  generalize lookM d.fo 1 0 0 = r at *
  obtain ⟨r0, r1, r2⟩ := r
  go_wp2_with (go_at_call 106; refine HC.out.mono ?_; rintro e w4 ⟨rfl, ⟨hP4, hM4⟩, hK4⟩; have y0 := hP4.cell 0 rfl; have y1 := hM4.cell 0 rfl; have HK := Lib.hid hK4; clear hP4 hM4 hK4 b0 b1 b2 b3 b4)
  go_quiet (fail)
  go_wp2_with fail
  go_ret2
  exact ⟨rfl, (hW.out.2.2.2.trans (HK.out.below (Nat.le_of_lt (Nat.lt_of_lt_of_le (Nat.lt_succ_self _) (Nat.le_of_lt hW.out.2.1.lt))) (fun b hb e => by rcases e with e | e <;> omega))).trans (below_drewN _ _ _)⟩
end Go.Proofs.YtbldidiibkcelaaGreatDoor

