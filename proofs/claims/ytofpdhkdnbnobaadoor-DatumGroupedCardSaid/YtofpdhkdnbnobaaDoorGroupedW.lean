/-
  DatumGrouped (walk). Not a statement of the seat.
-/
import Derived.Test.YtofpdhkdnbnobaaDoorGroupsW
namespace Go.Proofs.YtofpdhkdnbnobaaDoor
open Go.RowKit

def OuRel (n : Nat) (w3 : World) (t : Value) (wr : World) : Prop := ∃ j : Nat, t = .int .i64 (j : Nat) ∧ j ≤ n ∧ Below w3.heap.size w3 wr

theorem keyF_at : ∀ (f : Fo), keyF f = true → ∀ j, j < f.len → keyD (f.toL.getD j Dt.zero) = true
  | .nil, _, j, hj => by simp [Fo.len] at hj
  | .cons k i b t ks r, h, 0, _ => by
    simp only [keyF, Bool.and_eq_true] at h
    exact h.1
  | .cons k i b t ks r, h, j + 1, hj => by
    simp only [keyF, Bool.and_eq_true] at h
    have := keyF_at r h.2 j (by simp only [Fo.len] at hj; omega)
    simpa [Fo.toL] using this

set_option maxHeartbeats 8000000 in
set_option maxRecDepth 100000 in
theorem groupedT {f : Fo} {l : Option Addr} {n c : Nat} {S : Nat → Prop} {w : World} (hF : FoAt S w f l n c) (hS : ∀ x, S x → x < w.heap.size) (hL : Lb w) :
    Calls Tryd.prog 11 #[.slice l n c] w (fun e w' => e = .returned (.bool true) ∧ Below w.heap.size w w') := by
  have HF := Lib.hid hF
  have HS := Lib.hid hS
  have hlen := hF.len
  have HAW := Lib.hid (fun (wx : World) (hx : Below w.heap.size w wx) => awakeT (hL.below hx hL.size))
  have HC := Lib.hid (fitN hF hS)
  have hfo := fitS_ok f 0
  clear hF hS hL
  go_enter Tryd.func11, Tryd.ntmps11
  have haw0 := HAW.out w (Below.refl _ _)
  have HC0 := Lib.hid haw0
  clear haw0
  by_cases hbig : (60 : Int) < (n : Int)
  · clear hfo HC
    go_wp2_with (go_at_call 13; (with_reducible refine HC0.out.mono ?_); rintro e3 w3 ⟨rfl, hB⟩; have HB3 := Lib.hid hB; clear hB)
    go_ret
    exact ⟨rfl, HB3.out⟩
  cases hft : fitS f 0
  · rw [hft] at HC
    clear hfo hft
    go_wp2_with (first
      | (go_at_call 23; (with_reducible refine HC.out.mono ?_); rintro e2 w2 ⟨rfl, hB⟩
         have HB2 := Lib.hid hB
         have HC2 := Lib.hid (HAW.out w2 HB2.out)
         clear hB)
      | (go_at_call 13; (with_reducible refine HC2.out.mono ?_); rintro e3 w3 ⟨rfl, hB⟩; have HB3 := Lib.hid (HB2.out.trans (hB.mono HB2.out.size)); clear hB))
    go_ret
    exact ⟨rfl, HB3.out⟩
  rw [hft] at HC
  obtain ⟨hok, hsz⟩ := hfo hft (by omega)
  have HOK := Lib.hid hok
  have HSZ := Lib.hid hsz
  have HLEN := Lib.hid hlen
  have HBIG := Lib.hid hbig
  clear hfo hft hok hsz
  cases hkf : keyF f
  · have HKF := Lib.hid hkf
    have hgn : gN f = 0 := by simp [gN, hkf]
    have hge : gE f = 11 := by simp [gE, hkf]
    clear hkf
    go_wp2_with (first
      | (go_at_call 23; (with_reducible refine HC.out.mono ?_); rintro e2 w2 ⟨rfl, hB⟩
         have HB2 := Lib.hid hB
         have HC2 := Lib.hid (groupN (HF.out.same (w' := w2) (fun x _ hlt => hB.block x hlt) (fun x hx _ => hx)) (fun x hx => Nat.lt_of_lt_of_le (HS.out x hx) hB.size) HOK.out (by have := HSZ.out; omega))
         clear hB)
      | (go_at_call 24; (with_reducible refine HC2.out.mono ?_); intro e3 w3 hg; obtain ⟨a1, c1, rfl, hr1, hB⟩ := hg.to
         have HB3 := Lib.hid (HB2.out.trans (hB.mono HB2.out.size))
         have HC3 := Lib.hid (HAW.out w3 HB3.out)
         clear hB hg hr1)
      | (go_at_call 13; (with_reducible refine HC3.out.mono ?_); rintro e9 w9 ⟨rfl, hB⟩; have HB9 := Lib.hid (HB3.out.trans (hB.mono HB3.out.size)); clear hB))
    go_ret
    exact ⟨rfl, HB9.out⟩
  have HKF := Lib.hid hkf
  have hgn : gN f = n := by simp [gN, hkf, hlen]
  have hge : gE f = 0 := by simp [gE, hkf]
  have hni : (n : Int) ≤ 60 := by omega
  clear hkf hlen hbig
  go_wp2_with (first
    | (go_at_call 23; (with_reducible refine HC.out.mono ?_); rintro e2 w2 ⟨rfl, hB⟩
       have HB2 := Lib.hid hB
       have HC2 := Lib.hid (groupN (HF.out.same (w' := w2) (fun x _ hlt => hB.block x hlt) (fun x hx _ => hx)) (fun x hx => Nat.lt_of_lt_of_le (HS.out x hx) hB.size) HOK.out (by have := HSZ.out; omega))
       clear hB)
    | (go_at_call 24; (with_reducible refine HC2.out.mono ?_); intro e3 w3 hg; obtain ⟨a1, c1, rfl, hr1, hB⟩ := hg.to
       rw [hgn] at hr1
       have HB3 := Lib.hid (HB2.out.trans (hB.mono HB2.out.size))
       have HR1 := Lib.hid hr1
       clear hB hg hr1))
  have HSH := Lib.hid (shape_toL f (shape_right f (okF_right f HOK.out)))
  have hX : ∀ j, j < n → (gX f)[j]? = some (.int .i64 (gAt f.toL j : Nat)) := fun j hj => gX_at (by rw [hgn]; exact hj)
  have HX := Lib.hid hX
  have HFR := Lib.hid (fun (wx : World) (hx : Below w.heap.size w wx) => HF.out.same (w' := wx) (fun x _ hlt => hx.block x hlt) (fun x hx _ => hx))
  have H0 := Lib.hid (show OuRel n w3 (.int .i64 0) w3 from ⟨0, rfl, Nat.zero_le _, Below.refl _ _⟩)
  clear hgn hge hX
  go_loopw [38] (fun t38 wr => OuRel n w3 t38 wr) (fun t38 _ => n - (intOf t38).toNat)
  case atStart => exact H0.out
  case round =>
    obtain ⟨j, rfl, hj, hB⟩ := hrel
    have HB := Lib.hid hB
    clear H0
    by_cases hjn : (j : Int) < (n : Int)
    · have hjf : j < n := by omega
      obtain ⟨bg, og, rfl, _, h1⟩ := (HR1.out.below hB).at1 hjf
      rw [HX.out j hjf] at h1
      have hle := gAt_le f.toL j
      have hgg := gAt_gAt HSH.out j
      obtain ⟨bg', og', e, _, h2⟩ := (HR1.out.below hB).at1 (k := gAt f.toL j) (by omega)
      cases e
      rw [HX.out _ (by omega), hgg] at h2
      have HGJ := Lib.hid (show gAt f.toL j = gAt f.toL j from rfl)
      generalize hgj : gAt f.toL j = gj at *
      have HJ := Lib.hid hgj
      have hg0 : ¬ (gj : Int) < 0 := by omega
      have hg1 : ¬ (j : Int) < (gj : Int) := by omega
      have hg1n : ¬ j < gj := by omega
      have hg1b : gj ≤ j := by omega
      have hg2 : (gj : Int) < (n : Int) := by omega
      have hg3 : gj < n := by omega
      have HKEEP := Lib.hid (show ∀ wx, Below wr.heap.size wr wx → wx.cell? ⟨bg, og + j, none⟩ = some (.int .i64 (gj : Nat)) ∧ wx.cell? ⟨bg, og + gj, none⟩ = some (.int .i64 (gj : Nat)) from fun wx hx => ⟨cellAt hx h1, cellAt hx h2⟩)
      have HJF := Lib.hid hjf
      clear hB h1 h2 hgj hgg HGJ
      go_wp2_with fail
      go_region_held3 (fun wx : World => wx.cell? ⟨bg, og + j, none⟩ = some (.int .i64 (gj : Nat)) ∧ wx.cell? ⟨bg, og + gj, none⟩ = some (.int .i64 (gj : Nat)))
        (first | exact HKEEP.out _ (Below.refl _ _) | exact HKEEP.out _ (Below.refl _ _).drew)
        (fail)
      go_wp2_with fail
      have HBD := Lib.hid (HB.out.drew)
      have H0 := Lib.hid (show OuRel j wr.drew (.int .i64 0) wr.drew from ⟨0, rfl, Nat.zero_le _, Below.refl _ _⟩)
      clear hg0 hg1 hg2 hg3 hg1n hg1b
      rename World => w8
      go_loopw [69] (fun t69 wi => OuRel j w8.drew t69 wi) (fun t69 _ => j - (intOf t69).toNat)
      case atStart => exact H0.out
      case round =>
        obtain ⟨k, rfl, hk, hBi⟩ := hrel
        have HBk := Lib.hid (show Below w8.drew.heap.size w8.drew wr from hBi)
        have HB3k := Lib.hid (HBD.out.trans (hBi.mono HBD.out.size))
        have HBwk := Lib.hid (HB3.out.trans (HB3k.out.mono HB3.out.size))
        clear H0
        by_cases hkj : (k : Int) < (j : Int)
        · have hkf : k < j := by omega
          have hkn : (k : Int) < (n : Int) := by omega
          have hkn2 : k < n := by omega
          have hFi := HFR.out wr HBwk.out
          obtain ⟨d, bb, off, a2, n2, cp2, hd, rfl, hkF, e0, e1, e2, e3, e4, hnb⟩ := hFi.nth HJF.out
          obtain ⟨d', bb', off', a3, n3, cp3, hd', e, hkF', f0, f1, f2, f3, f4, _⟩ := hFi.nth hkn2
          cases e
          have hokd : okD d := by rw [hd]; exact okF_at f HOK.out j (by have := HLEN.out; have := HJF.out; omega)
          have hokd' : okD d' := by rw [hd']; exact okF_at f HOK.out k (by have := HLEN.out; omega)
          have hlt : ∀ x, S x → x < wr.heap.size := fun x hx => Nat.lt_of_lt_of_le (HS.out x hx) HBwk.out.size
          have HC29 := Lib.hid (fun (wx : World) (hx : Below wr.heap.size wr wx) => ((show Ar S wr d a2 n2 cp2 from ⟨hkF, hlt⟩).below hx).equalE ((show Ar S wr d' a3 n3 cp3 from ⟨hkF', hlt⟩).below hx) hokd hokd')
          have hiff := gAt_eq HSH.out hkf
          have hke : (eqD d d').2 = 0 := eqD_key (by rw [hd]; exact keyF_at f HKF.out j (by have := HLEN.out; have := HJF.out; omega)) (by rw [hd']; exact keyF_at f HKF.out k (by have := HLEN.out; omega))
          rw [← hd, ← hd', HJ.out] at hiff
          obtain ⟨bg', og', e, _, q1⟩ := (HR1.out.below HB3k.out).at1 (k := k) hkn2
          cases e
          obtain ⟨_, _, e, _, q0⟩ := (HR1.out.below HB3k.out).at1 (k := j) HJF.out
          cases e
          rw [HX.out k hkn2] at q1
          rw [HX.out j HJF.out, HJ.out] at q0
          generalize gAt f.toL k = gk at *
          generalize eqD d d' = rr at *
          obtain ⟨r1, r2⟩ := rr
          obtain rfl : r2 = 0 := hke
          replace hiff : gj = gk ↔ r1 = true := hiff
          have HK16 := Lib.hid (show ∀ wx, Below wr.heap.size wr wx → (wx.cell? ⟨bb, off + k * 5, none⟩ = some (.int .i64 d'.k) ∧ wx.cell? ⟨bb, off + k * 5 + 1, none⟩ = some (.int .i64 d'.i) ∧ wx.cell? ⟨bb, off + k * 5 + 2, none⟩ = some (.int .u64 d'.b) ∧ wx.cell? ⟨bb, off + k * 5 + 3, none⟩ = some (.string ⟨d'.t.toArray⟩) ∧ wx.cell? ⟨bb, off + k * 5 + 4, none⟩ = some (.slice a3 n3 cp3)) ∧ (wx.cell? ⟨bb, off + j * 5, none⟩ = some (.int .i64 d.k) ∧ wx.cell? ⟨bb, off + j * 5 + 1, none⟩ = some (.int .i64 d.i) ∧ wx.cell? ⟨bb, off + j * 5 + 2, none⟩ = some (.int .u64 d.b) ∧ wx.cell? ⟨bb, off + j * 5 + 3, none⟩ = some (.string ⟨d.t.toArray⟩) ∧ wx.cell? ⟨bb, off + j * 5 + 4, none⟩ = some (.slice a2 n2 cp2)) from fun wx hx => ⟨⟨cellAt hx f0, cellAt hx f1, cellAt hx f2, cellAt hx f3, cellAt hx f4⟩, cellAt hx e0, cellAt hx e1, cellAt hx e2, cellAt hx e3, cellAt hx e4⟩)
          have HK17 := Lib.hid (show ∀ wx, Below wr.heap.size wr wx → wx.cell? ⟨bg, og + j, none⟩ = some (.int .i64 (gj : Nat)) ∧ wx.cell? ⟨bg, og + k, none⟩ = some (.int .i64 (gk : Nat)) from fun wx hx => ⟨cellAt hx q0, cellAt hx q1⟩)
          have HKF2 := Lib.hid hkf
          have hjn2 : j < n := HJF.out
          have HBI := Lib.hid hBi
          clear hBi hFi hkF hkF' e0 e1 e2 e3 e4 f0 f1 f2 f3 f4 q0 q1 hd hd' hokd hokd' hlt
          cases r1
          · have hne : ¬ gj = gk := fun e => by have := hiff.1 e; cases this
            have hnei : ¬ (gj : Int) = (gk : Int) := by omega
            clear hiff
            go_wp2_with fail
            go_region_held3 (fun wx : World => (wx.cell? ⟨bb, off + k * 5, none⟩ = some (.int .i64 d'.k) ∧ wx.cell? ⟨bb, off + k * 5 + 1, none⟩ = some (.int .i64 d'.i) ∧ wx.cell? ⟨bb, off + k * 5 + 2, none⟩ = some (.int .u64 d'.b) ∧ wx.cell? ⟨bb, off + k * 5 + 3, none⟩ = some (.string ⟨d'.t.toArray⟩) ∧ wx.cell? ⟨bb, off + k * 5 + 4, none⟩ = some (.slice a3 n3 cp3)) ∧ (wx.cell? ⟨bb, off + j * 5, none⟩ = some (.int .i64 d.k) ∧ wx.cell? ⟨bb, off + j * 5 + 1, none⟩ = some (.int .i64 d.i) ∧ wx.cell? ⟨bb, off + j * 5 + 2, none⟩ = some (.int .u64 d.b) ∧ wx.cell? ⟨bb, off + j * 5 + 3, none⟩ = some (.string ⟨d.t.toArray⟩) ∧ wx.cell? ⟨bb, off + j * 5 + 4, none⟩ = some (.slice a2 n2 cp2)))
              (first | exact HK16.out _ (Below.refl _ _) | exact HK16.out _ (Below.refl _ _).drew | exact HK16.out _ HBQ.out)
              (first
                | (go_simp; go_at_call 29; (with_reducible refine (HC29.out _ (Below.refl _ _).drew).mono ?_); rintro eB wB ⟨rfl, hbB⟩; have HBQ := Lib.hid ((Below.refl wr.heap.size wr).drew.trans hbB); clear hbB))
            go_wp2_with fail
            go_region_held3 (fun wx : World => wx.cell? ⟨bg, og + j, none⟩ = some (.int .i64 (gj : Nat)) ∧ wx.cell? ⟨bg, og + k, none⟩ = some (.int .i64 (gk : Nat)))
              (first | exact HK17.out _ HBQ.out | exact HK17.out _ HBQ.out.drew)
              (fail)
            go_wp2_with fail
            go_roundw
            case rel => exact ⟨k + 1, by go_num, by have := HKF2.out; omega, (HBk.out.trans (HBQ.out.mono HBk.out.size)).drew⟩
            case measure => simp [intOf]; have := HKF2.out; omega
          · have hee : gj = gk := hiff.2 rfl
            subst hee
            clear hiff
            go_wp2_with fail
            go_region_held3 (fun wx : World => (wx.cell? ⟨bb, off + k * 5, none⟩ = some (.int .i64 d'.k) ∧ wx.cell? ⟨bb, off + k * 5 + 1, none⟩ = some (.int .i64 d'.i) ∧ wx.cell? ⟨bb, off + k * 5 + 2, none⟩ = some (.int .u64 d'.b) ∧ wx.cell? ⟨bb, off + k * 5 + 3, none⟩ = some (.string ⟨d'.t.toArray⟩) ∧ wx.cell? ⟨bb, off + k * 5 + 4, none⟩ = some (.slice a3 n3 cp3)) ∧ (wx.cell? ⟨bb, off + j * 5, none⟩ = some (.int .i64 d.k) ∧ wx.cell? ⟨bb, off + j * 5 + 1, none⟩ = some (.int .i64 d.i) ∧ wx.cell? ⟨bb, off + j * 5 + 2, none⟩ = some (.int .u64 d.b) ∧ wx.cell? ⟨bb, off + j * 5 + 3, none⟩ = some (.string ⟨d.t.toArray⟩) ∧ wx.cell? ⟨bb, off + j * 5 + 4, none⟩ = some (.slice a2 n2 cp2)))
              (first | exact HK16.out _ (Below.refl _ _) | exact HK16.out _ (Below.refl _ _).drew | exact HK16.out _ HBQ.out)
              (first
                | (go_simp; go_at_call 29; (with_reducible refine (HC29.out _ (Below.refl _ _).drew).mono ?_); rintro eB wB ⟨rfl, hbB⟩; have HBQ := Lib.hid ((Below.refl wr.heap.size wr).drew.trans hbB); clear hbB))
            go_wp2_with fail
            go_region_held3 (fun wx : World => wx.cell? ⟨bg, og + j, none⟩ = some (.int .i64 (gj : Nat)) ∧ wx.cell? ⟨bg, og + k, none⟩ = some (.int .i64 (gj : Nat)))
              (first | exact HK17.out _ HBQ.out | exact HK17.out _ HBQ.out.drew)
              (fail)
            go_wp2_with fail
            go_roundw
            case rel => exact ⟨k + 1, by go_num, by have := HKF2.out; omega, (HBk.out.trans (HBQ.out.mono HBk.out.size)).drew⟩
            case measure => simp [intOf]; have := HKF2.out; omega
        · have hkj2 : k = j := by omega
          clear hBi
          go_wp2_with fail
          go_roundw
          case rel => exact ⟨j + 1, by go_num, by have := HJF.out; omega, HB3k.out⟩
          case measure => simp [intOf]; have := HJF.out; omega
    · have HC9 := Lib.hid (HAW.out wr (HB3.out.trans (hB.mono HB3.out.size)))
      clear hB
      go_wp2_with (go_at_call 13; (with_reducible refine HC9.out.mono ?_); rintro e9 w9 ⟨rfl, hB⟩; have HB9 := Lib.hid (HB3.out.trans ((HB.out.trans (hB.mono HB.out.size)).mono HB3.out.size)); clear hB)
      go_ret
      exact ⟨rfl, HB9.out⟩
end Go.Proofs.YtofpdhkdnbnobaaDoor
