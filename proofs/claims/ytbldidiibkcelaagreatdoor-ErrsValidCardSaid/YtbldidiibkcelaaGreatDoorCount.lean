/-
  The document's count (walk). Not a statement of the seat.
-/
import Derived.Test.YtbldidiibkcelaaGreatDoorSame
namespace Go.Proofs.YtbldidiibkcelaaGreatDoor
open Go.RowKit

def cntL : Fo → Nat → Nat → Nat → Nat → Nat × Nat
  | .nil, _, _, n, most => (n, most)
  | .cons _ _ _ _ kids rest, deep, left, n, most =>
    let r := if 16 < deep + 1 ∨ left - n = 0 then (4097, deep + 1) else cntL kids (deep + 1) (left - n) 1 (deep + 1)
    if left < n + r.1 ∨ 16 < max most r.2 then (4097, max most r.2) else cntL rest deep left (n + r.1) (max most r.2)
/-- of a value with these children -/
def cntM (kids : Fo) (deep left : Nat) : Nat × Nat := if 16 < deep ∨ left = 0 then (4097, deep) else cntL kids deep left 1 deep
theorem cntL_cons (k i b : Int) (t : Bs) (kids rest : Fo) (deep left n most : Nat) : cntL (.cons k i b t kids rest) deep left n most =
    if left < n + (cntM kids (deep + 1) (left - n)).1 ∨ 16 < max most (cntM kids (deep + 1) (left - n)).2 then (4097, max most (cntM kids (deep + 1) (left - n)).2)
    else cntL rest deep left (n + (cntM kids (deep + 1) (left - n)).1) (max most (cntM kids (deep + 1) (left - n)).2) := by
  rw [cntL]; rfl
theorem cntL_le : ∀ (f : Fo) (deep left n most : Nat), n ≤ left → left ≤ 4096 → (cntL f deep left n most).1 ≤ 4097
  | .nil, deep, left, n, most, h, h2 => by rw [cntL]; show n ≤ 4097; omega
  | .cons k i b t kids rest, deep, left, n, most, h, h2 => by
    rw [cntL_cons]
    split
    · exact Nat.le_refl _
    · rename_i hc
      exact cntL_le rest _ _ _ _ (by omega) h2
theorem cntM_le (kids : Fo) (deep left : Nat) (h2 : left ≤ 4096) : (cntM kids deep left).1 ≤ 4097 := by
  unfold cntM
  split
  · exact Nat.le_refl _
  · exact cntL_le _ _ _ _ _ (by omega) h2

def CP (w : World) (res : Nat × Nat) (e : Ending) (w' : World) : Prop := e = .returned (.tuple #[.int .i64 (res.1 : Nat), .int .i64 (res.2 : Nat)]) ∧ Below w.heap.size w w'
def COK (kids : Fo) : Prop := ∀ (k i b : Int) (t : Bs) (l : Option Addr) (n c : Nat) (S : Nat → Prop) (deep left : Nat) (w : World), FoAt S w kids l n c → (∀ x, S x → x < w.heap.size) → deep ≤ 17 → left ≤ 4096 →
  Calls Tryz.prog 99 #[.agg #[.int .i64 k, .int .i64 i, .int .u64 b, .string ⟨t.toArray⟩, .slice l n c], .int .i64 (deep : Nat), .int .i64 (left : Nat)] w (CP w (cntM kids deep left))

def CRel (kids : Fo) (deep left : Nat) (w : World) (res : Nat × Nat) (t24 t8 t9 : Value) (wr : World) : Prop :=
  ∃ (dn rest : Fo) (n most : Nat), t24 = .int .i64 (dn.len : Nat) ∧ t8 = .int .i64 (n : Nat) ∧ t9 = .int .i64 (most : Nat) ∧ kids = dn.app rest ∧ Below w.heap.size w wr ∧ n ≤ left ∧ most ≤ 17 ∧ cntL rest deep left n most = res

set_option maxHeartbeats 8000000 in
set_option maxRecDepth 100000 in
theorem countN {kids : Fo} (hall : kids.All COK) : COK kids := by
  intro k i b t l n c S deep left w hF hS hd hl
  generalize hres : cntM kids deep left = res
  have hlen := hF.len
  unfold cntM at hres
  have hA := Blk.new w #[.int .i64 k, .int .i64 i, .int .u64 b, .string ⟨t.toArray⟩, .slice l n c] 25
  have hBA : Below w.heap.size w (w.alloc (.cells #[.int .i64 k, .int .i64 i, .int .u64 b, .string ⟨t.toArray⟩, .slice l n c] 25)) := (Below.refl _ _).alloc (Nat.le_refl _) _
  go_enter Tryz.func99, Tryz.ntmps99
  go_upto_region 1 with (fail)
  generalize w.alloc (.cells #[.int .i64 k, .int .i64 i, .int .u64 b, .string ⟨t.toArray⟩, .slice l n c] 25) = w1 at *
  have b4 := hA.cell 4 rfl
  have HF := Lib.hid hF
  have HS := Lib.hid hS
  have HA := Lib.hid hA
  have HBA := Lib.hid hBA
  clear hA hBA hF hS
  by_cases h1 : 16 < deep
  · have h1i : (16 : Int) < (deep : Int) := by omega
    rw [if_pos (.inl h1)] at hres
    subst hres
    clear h1
    go_wp2_with fail
    go_ret2
    exact ⟨rfl, HBA.out⟩
  · have h1i : ¬ (16 : Int) < (deep : Int) := by omega
    by_cases h2 : left = 0
    · rw [if_pos (.inr h2)] at hres
      subst hres
      subst h2
      clear h1
      go_wp2_with fail
      go_ret2
      exact ⟨rfl, HBA.out⟩
    · have h2i : ¬ (left : Int) ≤ 0 := by omega
      rw [if_neg (by omega)] at hres
      obtain ⟨d1, hd1⟩ : ∃ d1, d1 = deep + 1 := ⟨_, rfl⟩
      have hd17 : d1 ≤ 17 := by omega
      have hd1i : (deep : Int) + 1 = (d1 : Int) := by omega
      have H0 := Lib.hid (show CRel kids deep left w res (.int .i64 0) (.int .i64 1) (.int .i64 (deep : Nat)) w1 from ⟨.nil, kids, 1, deep, rfl, rfl, rfl, rfl, HBA.out, by omega, by omega, hres⟩)
      have HALL := Lib.hid hall
      have HLEN := Lib.hid hlen
      have HD1 := Lib.hid hd1
      clear hres hall hlen h1 h2 hd1
      go_wp2_with fail
      go_loopw [24, 8, 9] (fun t24 t8 t9 wr => CRel kids deep left w res t24 t8 t9 wr ∧ wr.cell? ⟨w.heap.size, 4, none⟩ = some (.slice l n c) ∧ Below w1.heap.size w1 wr) (fun t24 _ _ _ => n - (intOf t24).toNat)
      case atStart => exact ⟨H0.out, b4, Below.refl _ _⟩
      case round =>
        obtain ⟨⟨dn, rest, m, most, rfl, rfl, rfl, hk, hB, hml, hmo, hq⟩, c4, hB1⟩ := hrel
        have hlen := HLEN.out
        rw [hk, Fo.len_app] at hlen
        have HB := Lib.hid hB
        have HB1 := Lib.hid hB1
        have hFr : FoAt S wr kids l n c := HF.out.same (fun x hx hlt => hB.block x (HS.out x hx)) (fun x hx _ => hx)
        clear hB hB1 H0 b4
        cases rest with
        | nil =>
          have hj : ¬ (dn.len : Int) < (n : Int) := by have : Fo.len .nil = 0 := rfl; omega
          rw [cntL] at hq
          have HR := Lib.hid hq
          clear hq hk hlen hFr
          go_wp2_with fail
          go_ret2
          rw [← HR.out]
          exact ⟨rfl, HB.out⟩
        | cons k2 i2 b2 t2 ks rest2 =>
          have hlr : (Fo.cons k2 i2 b2 t2 ks rest2).len = rest2.len + 1 := rfl
          have hjn : dn.len < n := by omega
          have hj : (dn.len : Int) < (n : Int) := by omega
          obtain ⟨cs, ⟨hRd, hSx⟩, hAt⟩ := hFr
          have hHead := hRd.at (k := dn.len) hjn
          have hnb : n ≤ 9223372036854775807 := by have h1 := hRd.le; have h2 := hRd.max; unfold maxLen at h2; omega
          rw [hk] at hAt
          obtain ⟨cs1, cs2, rfl, hA1, hA2⟩ := At.split dn hAt
          have hl1 := At.len dn hA1
          obtain ⟨a2, n2, cap2, ks2, cs', rfl, hKid, hKidAt, _⟩ := hA2
          obtain ⟨bb2, off, rfl, hlt, hc⟩ := hHead
          have hcell : ∀ i, i < 5 → wr.cell? ⟨bb2, off + dn.len * 5 + i, none⟩ = [Value.int .i64 k2, .int .i64 i2, .int .u64 b2, .string ⟨t2.toArray⟩, .slice a2 n2 cap2][i]? := fun i hi => by
            rw [hc i hi, List.getElem?_append_right (by omega), hl1, Nat.add_sub_cancel_left]
            match i, hi with
            | 0, _ => rfl
            | 1, _ => rfl
            | 2, _ => rfl
            | 3, _ => rfl
            | 4, _ => rfl
          have hkF : FoAt S wr ks a2 n2 cap2 := ⟨ks2, hKid, hKidAt⟩
          have e0 := hcell 0 (by omega)
          have e1 := hcell 1 (by omega)
          have e2 := hcell 2 (by omega)
          have e3 := hcell 3 (by omega)
          have e4 := hcell 4 (by omega)
          simp only [List.getElem?_cons_zero, List.getElem?_cons_succ, Nat.add_zero] at e0 e1 e2 e3 e4
          have hCOK : COK ks := by
            have hal := HALL.out
            rw [hk] at hal
            exact (Fo.All.split dn hal).1
          rw [cntL_cons, ← HD1.out] at hq
          obtain ⟨lf, hlf⟩ : ∃ lf, lf = left - m := ⟨_, rfl⟩
          rw [← hlf] at hq
          have hlfi : (left : Int) - (m : Int) = (lf : Int) := by omega
          have HC := Lib.hid (hCOK k2 i2 b2 t2 a2 n2 cap2 S d1 lf wr hkF (fun x hx => Nat.lt_of_lt_of_le (HS.out x hx) HB.out.size) hd17 (by omega))
          have hcm := cntM_le ks d1 lf (by omega)
          have HKK := Lib.hid hk
          have HJ := Lib.hid hjn
          generalize cntM ks d1 lf = r at *
          obtain ⟨r1, r2⟩ := r
          have HQ := Lib.hid hq
          obtain ⟨n1, hn1⟩ : ∃ n1, n1 = m + r1 := ⟨_, rfl⟩
          obtain ⟨m1, hm1⟩ : ∃ m1, m1 = max most r2 := ⟨_, rfl⟩
          replace hcm : r1 ≤ 4097 := hcm
          have hn1i : (m : Int) + (r1 : Int) = (n1 : Int) := by omega
          have hm1i : max (most : Int) (r2 : Int) = (m1 : Int) := by omega
          have hm1j : max (r2 : Int) (most : Int) = (m1 : Int) := by omega
          have hq' := HQ.out
          simp only [← hn1, ← hm1] at hq'
          have HNM := Lib.hid (And.intro hn1 hm1)
          have HLF := Lib.hid hlf
          clear hkF hCOK hk hcell hc hRd hSx hAt hA1 hKid hKidAt hl1 hlen hlr hlt hjn hq HQ hn1 hm1 hlf
          generalize hjj : dn.len = j at *
          have HJJ := Lib.hid hjj
          clear hjj
          by_cases hc1 : left < n1
          · have hc1i : (left : Int) < (n1 : Int) := by omega
            rw [if_pos (.inl hc1)] at hq'
            have HR := Lib.hid hq'
            clear hq'
            go_wp2_with (go_at_call 99; (with_reducible refine HC.out.mono ?_); rintro e5 w5 ⟨rfl, hB5⟩)
            go_ret2
            rw [← HR.out]
            exact ⟨rfl, HB.out.trans (hB5.mono HB.out.size)⟩
          · have hc1i : ¬ (left : Int) < (n1 : Int) := by omega
            by_cases hc2 : 16 < m1
            · have hc2i : (16 : Int) < (m1 : Int) := by omega
              rw [if_pos (.inr hc2)] at hq'
              have HR := Lib.hid hq'
              clear hq'
              go_wp2_with (go_at_call 99; (with_reducible refine HC.out.mono ?_); rintro e5 w5 ⟨rfl, hB5⟩)
              go_ret2
              rw [← HR.out]
              exact ⟨rfl, HB.out.trans (hB5.mono HB.out.size)⟩
            · have hc2i : ¬ (16 : Int) < (m1 : Int) := by omega
              rw [if_neg (by omega)] at hq'
              have HR := Lib.hid hq'
              clear hq'
              go_wp2_with (go_at_call 99; (with_reducible refine HC.out.mono ?_); rintro e5 w5 ⟨rfl, hB5⟩; have HB5 := Lib.hid hB5; clear hB5)
              go_roundw
              case rel =>
                refine ⟨⟨dn.app (.cons k2 i2 b2 t2 ks .nil), rest2, n1, m1, ?_, rfl, rfl, ?_, HB.out.trans (HB5.out.mono HB.out.size), by omega, by omega, HR.out⟩, cellAt HB5.out c4, HB1.out.trans (HB5.out.mono HB1.out.size)⟩
                · rw [Fo.len_app, HJJ.out, show (Fo.cons k2 i2 b2 t2 ks .nil).len = 1 from rfl]; go_num
                · rw [Fo.app_assoc]; exact HKK.out
              case measure => simp [intOf]; have := HJ.out; omega
theorem countAll : ∀ f : Fo, f.All COK
  | .nil => trivial
  | .cons _ _ _ _ kids rest => ⟨countN (countAll kids), countAll rest⟩
theorem countG (kids : Fo) : COK kids := countN (countAll kids)
end Go.Proofs.YtbldidiibkcelaaGreatDoor
