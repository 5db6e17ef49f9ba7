/-
  Group of the document (walk). Not a statement of the seat.
-/
import Derived.Test.YtofpdhkdnbnobaaDoorGroupC
import Derived.Test.YtofpdhkdnbnobaaDoorKeyN
namespace Go.Proofs.YtofpdhkdnbnobaaDoor
open Go.RowKit

theorem Fo.split_at : ∀ (f : Fo) (j : Nat), j < f.len → ∃ (dn : Fo) (k i b : Int) (t : Bs) (ks r : Fo), f = dn.app (.cons k i b t ks r) ∧ dn.len = j
  | .nil, j, h => by simp [Fo.len] at h
  | .cons k i b t ks r, 0, _ => ⟨.nil, k, i, b, t, ks, r, rfl, rfl⟩
  | .cons k i b t ks r, j + 1, h => by
    obtain ⟨dn, k2, i2, b2, t2, ks2, r2, e, hl⟩ := Fo.split_at r j (by simp only [Fo.len] at h; omega)
    exact ⟨.cons k i b t ks dn, k2, i2, b2, t2, ks2, r2, by rw [e]; rfl, by simp only [Fo.len]; omega⟩
/-- a value of a row, by its place -/
theorem FoAt.nth {S : Nat → Prop} {w : World} {f : Fo} {l : Option Addr} {n c j : Nat} (h : FoAt S w f l n c) (hj : j < n) :
    ∃ (d : Dt) (bb off : Nat) (a : Option Addr) (n2 cap : Nat), d = f.toL.getD j Dt.zero ∧ l = some ⟨bb, off, none⟩ ∧ FoAt S w d.l a n2 cap ∧ w.cell? ⟨bb, off + j * 5, none⟩ = some (.int .i64 d.k) ∧ w.cell? ⟨bb, off + j * 5 + 1, none⟩ = some (.int .i64 d.i) ∧ w.cell? ⟨bb, off + j * 5 + 2, none⟩ = some (.int .u64 d.b) ∧
      w.cell? ⟨bb, off + j * 5 + 3, none⟩ = some (.string ⟨d.t.toArray⟩) ∧ w.cell? ⟨bb, off + j * 5 + 4, none⟩ = some (.slice a n2 cap) ∧ n ≤ 9223372036854775807 := by
  have hl := h.len
  obtain ⟨dn, k, i, b, t, ks, r, rfl, rfl⟩ := Fo.split_at f j (by omega)
  obtain ⟨bb, off, a, n2, cap, e, h1, h2, h3, h4, h5, h6, h7, _⟩ := h.elem
  exact ⟨⟨k, i, b, t, ks⟩, bb, off, a, n2, cap, Fo.toL_at.symm, e, h1, h2, h3, h4, h5, h6, h7⟩

/-- the first from q on that is equal -/
def bst (L : List Dt) (j q : Nat) : Nat := ((List.range j).find? fun i => decide (q ≤ i) && (eqD (L.getD i Dt.zero) (L.getD j Dt.zero)).1).getD j
theorem bst_top (L : List Dt) (j : Nat) : bst L j j = j := by
  unfold bst
  have : ((List.range j).find? fun i => decide (j ≤ i) && (eqD (L.getD i Dt.zero) (L.getD j Dt.zero)).1) = none := by
    rw [List.find?_eq_none]
    intro i hi
    have := List.mem_range.1 hi
    have h : decide (j ≤ i) = false := by simp; omega
    rw [h]
    simp
  rw [this]
  rfl
theorem bst_zero (L : List Dt) (j : Nat) : bst L j 0 = gAt L j := by
  unfold bst gAt firstN
  congr 2
theorem bst_step (L : List Dt) {j q : Nat} (hq : q < j) : bst L j q = if (eqD (L.getD q Dt.zero) (L.getD j Dt.zero)).1 = true then q else bst L j (q + 1) := by
  by_cases h : (eqD (L.getD q Dt.zero) (L.getD j Dt.zero)).1 = true
  · rw [if_pos h]
    unfold bst
    have : ((List.range j).find? fun i => decide (q ≤ i) && (eqD (L.getD i Dt.zero) (L.getD j Dt.zero)).1) = some q := by
      rw [List.find?_range_eq_some]
      refine ⟨by rw [h]; simp, List.mem_range.2 hq, fun i hi => ?_⟩
      have h2 : decide (q ≤ i) = false := by simp; omega
      rw [h2]
      simp
    rw [this]
    rfl
  · rw [if_neg h]
    unfold bst
    have hf : (eqD (L.getD q Dt.zero) (L.getD j Dt.zero)).1 = false := by simpa using h
    refine congrArg (fun x => Option.getD x j) (find_congr _ (fun i _ => ?_))
    by_cases e : i = q
    · subst e
      rw [hf]
      simp
    · have : decide (q ≤ i) = decide (q + 1 ≤ i) := by
        rw [decide_eq_decide]
        omega
      rw [this]
def RgRel (f : Fo) (w : World) (t4 t12 : Value) (wr : World) : Prop :=
  ∃ (j : Nat) (ao : Option Addr) (co : Nat), t12 = .int .i64 (j : Nat) ∧ t4 = .slice ao j co ∧ j ≤ f.len ∧ Row w.heap.size wr 1 ao j co (outL f.toL j) ∧ Below w.heap.size w wr ∧ ∀ i, i < j → keyD (f.toL.getD i Dt.zero) = true
def InRel (f : Fo) (j : Nat) (w0 : World) (t6 t7 : Value) (wi : World) : Prop :=
  ∃ (q : Nat) (x : Int), t7 = .int .i64 x ∧ x = (q : Int) - 1 ∧ t6 = .int .i64 (bst f.toL j q : Nat) ∧ q ≤ j ∧ Below w0.heap.size w0 wi

set_option maxHeartbeats 8000000 in
set_option maxRecDepth 100000 in
theorem rgroupN {f : Fo} {l : Option Addr} {n c : Nat} {S : Nat → Prop} {w : World} (hF : FoAt S w f l n c) (hS : ∀ x, S x → x < w.heap.size) (hok : okF f) (hs : sizeF f ≤ 100000) :
    Calls Tryd.prog 25 #[.slice l n c] w (GRP f w) := by
  obtain ⟨i0, hi, hy0, hy1, hy2⟩ := info_parts intInfo
  have HF := Lib.hid hF
  have HS := Lib.hid hS
  have HOK := Lib.hid hok
  have HLEN := Lib.hid hF.len
  have hl9 : f.len ≤ 100000 := by have := len_size f; omega
  have hnl : (n : Int) = (f.len : Int) := by have := hF.len; omega
  have HNL := Lib.hid hnl
  have hn9 : (n : Int) ≤ 100000 := by omega
  have H0 := Lib.hid (show RgRel f w (.slice none 0 0) (.int .i64 0) w from ⟨0, none, 0, rfl, rfl, Nat.zero_le _, Row.nil _ _ _, Below.refl _ _, fun i hi => absurd hi (Nat.not_lt_zero i)⟩)
  clear hF hS hok hs hnl
  go_enter Tryd.func25, Tryd.ntmps25
  go_wp2_with fail
  go_loopw [4, 12] (fun t4 t12 wr => RgRel f w t4 t12 wr) (fun _ t12 _ => n - (intOf t12).toNat)
  case atStart => exact H0.out
  case round =>
    obtain ⟨j, ao, co, rfl, rfl, hj, hR, hB, hkeys⟩ := hrel
    have HR := Lib.hid hR
    have HB := Lib.hid hB
    have HKEYS := Lib.hid hkeys
    clear H0 hR hkeys
    by_cases hjn : (j : Int) < (n : Int)
    · have hjf : j < n := by omega
      have hFr := HF.out.same (w' := wr) (fun x hx hlt => hB.block x hlt) (fun x hx _ => hx)
      obtain ⟨d, bb, off, a2, n2, cp2, hd, rfl, hkF, e0, e1, e2, e3, e4, hnb⟩ := hFr.nth hjf
      have hokd : okD d := by rw [hd]; exact okF_at f HOK.out j (by have := HLEN.out; omega)
      have HFR := Lib.hid hFr
      have HKY := Lib.hid (keyG d.l d.k d.i d.b d.t a2 n2 cp2 S wr hkF (fun x hx => Nat.lt_of_lt_of_le (HS.out x hx) HB.out.size) (fun e9 => by have := (okE_fits hokd).1; rw [e9] at this; simp [fitsM] at this; omega) (shape_right _ (okE_fits hokd).2))
      have HKF := Lib.hid hkF
      have HD := Lib.hid hd
      have HOKD := Lib.hid hokd
      have hkk : keyD d = keyOne d.k (keyF d.l) := rfl
      rw [← hkk] at HKY
      have HJF := Lib.hid hjf
      clear hFr hkF hd hokd hkk hB hjf
      cases hkd : keyD d
      · rw [hkd] at HKY
        have HBAD := Lib.hid hkd
        clear hkd
        go_wp2_with (go_at_call 46; (with_reducible refine HKY.out.mono ?_); rintro eA wA ⟨rfl, hbA⟩; have HBA := Lib.hid (HB.out.trans (hbA.mono HB.out.size)); clear hbA)
        go_ret2
        exact ⟨none, 0, 0, [], 11, rfl, Rd.nil _ _, HBA.out, .inr ⟨keyF_not f j (by have := HLEN.out; have := HJF.out; omega) (by rw [← HD.out]; exact HBAD.out), rfl, rfl, rfl⟩⟩
      · rw [hkd] at HKY
        have HGOOD := Lib.hid hkd
        clear hkd
        go_wp2_with (go_at_call 46; (with_reducible refine HKY.out.mono ?_); rintro eA wA ⟨rfl, hbA⟩; have HBA := Lib.hid hbA; replace e0 := cellAt hbA e0; replace e1 := cellAt hbA e1; replace e2 := cellAt hbA e2; replace e3 := cellAt hbA e3; replace e4 := cellAt hbA e4; clear hbA)
        have HAin := Lib.hid (show Ar S wA d a2 n2 cp2 from ⟨HKF.out.same (fun x _ hlt => HBA.out.block x hlt) (fun x hx2 _ => hx2), fun x hx2 => Nat.lt_of_lt_of_le (HS.out x hx2) (Nat.le_trans HB.out.size HBA.out.size)⟩)
        have HB0 := Lib.hid (HB.out.trans (HBA.out.mono HB.out.size))
        have HFA := Lib.hid (HFR.out.same (w' := wA) (fun x hx hlt => HBA.out.block x hlt) (fun x hx _ => hx))
        have HRA := Lib.hid (HR.out.below HBA.out)
        have HE := Lib.hid (And.intro e0 (And.intro e1 (And.intro e2 (And.intro e3 e4))))
        have HJ9 := Lib.hid (show j ≤ 100000 by have := HJF.out; have := HLEN.out; omega)
        have H0 := Lib.hid (show InRel f j wA (.int .i64 (j : Nat)) (.int .i64 ((j : Int) - 1)) wA from ⟨j, _, rfl, rfl, by rw [bst_top], Nat.le_refl _, Below.refl _ _⟩)
        clear e0 e1 e2 e3 e4
        go_loopw [6, 7] (fun t6 t7 wi => InRel f j wA t6 t7 wi) (fun _ t7 _ => (intOf t7 + 1).toNat)
        case atStart => exact H0.out
        case round =>
          obtain ⟨q, x, rfl, hx, rfl, hq, hBi⟩ := hrel
          have HBi := Lib.hid hBi
          obtain ⟨e0, e1, e2, e3, e4⟩ := HE.out
          clear H0
          cases q with
          | zero =>
            obtain rfl : x = -1 := by omega
            have HB1 := Lib.hid (HB0.out.trans (hBi.mono HB0.out.size))
            have HG := Lib.hid (bst_zero f.toL j)
            generalize bst f.toL j 0 = at0 at *
            have hr := HRA.out.below hBi
            have HR5 := fun o => Lib.hid (hr.alloc o)
            have HS5 := Lib.hid (Src.oneAt (P := Tryd.prog) (w := wr) (tx := 39) Tryd.underlying39 (.int .i64 (at0 : Nat)) 3 rfl (g := wr.heap.size) rfl)
            have hle5 : w.heap.size ≤ wr.heap.size := HB1.out.size
            have HRB := Lib.hid hr
            have hjl : j ≤ 100000 := HJ9.out
            clear hBi hx e0 e1 e2 e3 e4 hr
            go_wp2_with (at_builtin; refine wpList_append_row rfl _ _ 39 39 rfl 3 i0 (.int .i64 0) 1 8 Tryd.underlying39 hi hy0 hy1 hy2 rfl rfl (HR5 _).out 1 _ HS5.out (by unfold maxLen; omega) (by omega) (by simp; omega) ?_; intro a4 c4 w4 hrow hgr hbk4; have HR4 := Lib.hid hrow; have HG4 := Lib.hid hgr; have HB4 := Lib.hid hbk4; clear hrow hgr hbk4)
            go_roundw
            case rel =>
              refine ⟨j + 1, a4, c4, by go_num, rfl, by have := HJF.out; have := HLEN.out; omega, ?_, ?_, fun i hi => ?_⟩
              · rw [outL_succ, ← HG.out]; exact HR4.out
              · exact ((((Kept.refl (fun x => w.heap.size ≤ x) wr).alloc _).grown HG4.out (fun b hb _ => (HRB.out.lt b hb).1)).below HB1.out.size (fun x hx h => by have h' : w.heap.size ≤ x := h; omega)) |> HB1.out.trans
              · by_cases e : i = j
                · rw [e, ← HD.out]; exact HGOOD.out
                · exact HKEYS.out i (by omega)
            case measure => simp [intOf]; have := HJF.out; omega
          | succ q =>
            obtain rfl : x = (q : Int) := by omega
            have hqn : q < n := by have := HJF.out; omega
            have hqni : (q : Int) < (n : Int) := by omega
            have hFi := HFA.out.same (w' := wr) (fun x hx hlt => hBi.block x hlt) (fun x hx _ => hx)
            obtain ⟨d', bb', off', a3, n3, cp3, hd', e, hkF', f0, f1, f2, f3, f4, _⟩ := hFi.nth hqn
            cases e
            have hok' : okD d' := by rw [hd']; exact okF_at f HOK.out q (by have := HLEN.out; omega)
            have HC := Lib.hid (fun (wx : World) (hx : Below wr.heap.size wr wx) => (show Ar S wr d' a3 n3 cp3 from ⟨hkF', fun x hx2 => Nat.lt_of_lt_of_le (HAin.out.lt x hx2) hBi.size⟩).below hx |>.requalE ((HAin.out.below hBi).below hx) hok' HOKD.out)
            have hst := bst_step f.toL (j := j) (q := q) (by omega)
            rw [← hd', ← HD.out] at hst
            generalize eqD d' d = rr at *
            obtain ⟨r1, r2⟩ := rr
            have HST := Lib.hid hst
            have HQ := Lib.hid hq
            replace e0 := cellAt hBi e0
            replace e1 := cellAt hBi e1
            replace e2 := cellAt hBi e2
            replace e3 := cellAt hBi e3
            replace e4 := cellAt hBi e4
            generalize bst f.toL j (q + 1) = at0 at *
            have HKEEP := Lib.hid (show ∀ wx, Below wr.heap.size wr wx → (wx.cell? ⟨bb, off + q * 5, none⟩ = some (.int .i64 d'.k) ∧ wx.cell? ⟨bb, off + q * 5 + 1, none⟩ = some (.int .i64 d'.i) ∧ wx.cell? ⟨bb, off + q * 5 + 2, none⟩ = some (.int .u64 d'.b) ∧ wx.cell? ⟨bb, off + q * 5 + 3, none⟩ = some (.string ⟨d'.t.toArray⟩) ∧ wx.cell? ⟨bb, off + q * 5 + 4, none⟩ = some (.slice a3 n3 cp3)) ∧ (wx.cell? ⟨bb, off + j * 5, none⟩ = some (.int .i64 d.k) ∧ wx.cell? ⟨bb, off + j * 5 + 1, none⟩ = some (.int .i64 d.i) ∧ wx.cell? ⟨bb, off + j * 5 + 2, none⟩ = some (.int .u64 d.b) ∧ wx.cell? ⟨bb, off + j * 5 + 3, none⟩ = some (.string ⟨d.t.toArray⟩) ∧ wx.cell? ⟨bb, off + j * 5 + 4, none⟩ = some (.slice a2 n2 cp2)) from fun wx hx => ⟨⟨cellAt hx f0, cellAt hx f1, cellAt hx f2, cellAt hx f3, cellAt hx f4⟩, cellAt hx e0, cellAt hx e1, cellAt hx e2, cellAt hx e3, cellAt hx e4⟩)
            clear e0 e1 e2 e3 e4 f0 f1 f2 f3 f4 hBi hFi hkF' hd' hok' hst hx hq hqn
            cases r1
            · go_wp2_with fail
              go_region_held3 (fun wx : World => (wx.cell? ⟨bb, off + q * 5, none⟩ = some (.int .i64 d'.k) ∧ wx.cell? ⟨bb, off + q * 5 + 1, none⟩ = some (.int .i64 d'.i) ∧ wx.cell? ⟨bb, off + q * 5 + 2, none⟩ = some (.int .u64 d'.b) ∧ wx.cell? ⟨bb, off + q * 5 + 3, none⟩ = some (.string ⟨d'.t.toArray⟩) ∧ wx.cell? ⟨bb, off + q * 5 + 4, none⟩ = some (.slice a3 n3 cp3)) ∧ (wx.cell? ⟨bb, off + j * 5, none⟩ = some (.int .i64 d.k) ∧ wx.cell? ⟨bb, off + j * 5 + 1, none⟩ = some (.int .i64 d.i) ∧ wx.cell? ⟨bb, off + j * 5 + 2, none⟩ = some (.int .u64 d.b) ∧ wx.cell? ⟨bb, off + j * 5 + 3, none⟩ = some (.string ⟨d.t.toArray⟩) ∧ wx.cell? ⟨bb, off + j * 5 + 4, none⟩ = some (.slice a2 n2 cp2)))
                (first | exact HKEEP.out _ (Below.refl _ _) | exact HKEEP.out _ (Below.refl _ _).drew | exact HKEEP.out _ HBQ.out)
                (first
                  | (go_simp; go_at_call 30; (with_reducible refine (HC.out _ (Below.refl _ _).drew).mono ?_); rintro eB wB ⟨rfl, hbB⟩; have HBQ := Lib.hid ((Below.refl wr.heap.size wr).drew.trans hbB); have HBB := Lib.hid (HBi.out.trans (HBQ.out.mono HBi.out.size)); clear hbB))
              go_wp2_with fail
              go_roundw
              case rel => exact ⟨q, _, rfl, by go_num, by rw [HST.out]; rfl, by have := HQ.out; omega, HBB.out⟩
              case measure => simp [intOf]
            · go_wp2_with fail
              go_region_held3 (fun wx : World => (wx.cell? ⟨bb, off + q * 5, none⟩ = some (.int .i64 d'.k) ∧ wx.cell? ⟨bb, off + q * 5 + 1, none⟩ = some (.int .i64 d'.i) ∧ wx.cell? ⟨bb, off + q * 5 + 2, none⟩ = some (.int .u64 d'.b) ∧ wx.cell? ⟨bb, off + q * 5 + 3, none⟩ = some (.string ⟨d'.t.toArray⟩) ∧ wx.cell? ⟨bb, off + q * 5 + 4, none⟩ = some (.slice a3 n3 cp3)) ∧ (wx.cell? ⟨bb, off + j * 5, none⟩ = some (.int .i64 d.k) ∧ wx.cell? ⟨bb, off + j * 5 + 1, none⟩ = some (.int .i64 d.i) ∧ wx.cell? ⟨bb, off + j * 5 + 2, none⟩ = some (.int .u64 d.b) ∧ wx.cell? ⟨bb, off + j * 5 + 3, none⟩ = some (.string ⟨d.t.toArray⟩) ∧ wx.cell? ⟨bb, off + j * 5 + 4, none⟩ = some (.slice a2 n2 cp2)))
                (first | exact HKEEP.out _ (Below.refl _ _) | exact HKEEP.out _ (Below.refl _ _).drew | exact HKEEP.out _ HBQ.out)
                (first
                  | (go_simp; go_at_call 30; (with_reducible refine (HC.out _ (Below.refl _ _).drew).mono ?_); rintro eB wB ⟨rfl, hbB⟩; have HBQ := Lib.hid ((Below.refl wr.heap.size wr).drew.trans hbB); have HBB := Lib.hid (HBi.out.trans (HBQ.out.mono HBi.out.size)); clear hbB))
              go_wp2_with fail
              go_roundw
              case rel => exact ⟨q, _, rfl, by go_num, by rw [HST.out]; rfl, by have := HQ.out; omega, HBB.out⟩
              case measure => simp [intOf]
    · have hje : j = f.len := by have := HLEN.out; omega
      subst hje
      clear hB
      go_wp2_with fail
      go_ret2
      exact ⟨ao, f.len, co, outL f.toL f.len, 0, rfl, HR.out.rd, HB.out, .inl ⟨keyF_all f HKEYS.out, rfl, rfl, rfl⟩⟩
end Go.Proofs.YtofpdhkdnbnobaaDoor
