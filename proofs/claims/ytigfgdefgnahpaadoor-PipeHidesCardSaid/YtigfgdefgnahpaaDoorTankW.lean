/-
  The walk of the tank's write (the document's). Not a statement of the seat.
-/
import Derived.Test.YtigfgdefgnahpaaDoorWrite
namespace Go.Proofs.YtigfgdefgnahpaaDoor
open Go.RowKit

set_option maxRecDepth 100000 in
set_option maxHeartbeats 2000000 in
theorem writeR {t : Tank} {rd : Bool} {bk : Int} {b k : Nat} {o : Option Nat} {pa : Option Addr} {pn pc : Nat} {bs : Bytes} {w : World} {r : Own}
    (hT : TankAt w r k b t rd bk) (hok : t.ok) (hP : RdK w r o 1 pa pn pc (B8 bs)) (ho : o ≠ some k) (hlen : t.has.length + bs.length ≤ 1000000) (_hk : t.k < 1000000000000) (hbnd : Bnd w r)
    {said : Nat} {v : Int} (hsaid : t.said bs.length = said) (hv : (if t.full bs.length then 362 else 0) = v) :
    Calls Tryd.prog 54 #[.pointer (some ⟨b, 0, none⟩), .slice pa pn pc] w (WroteP t rd bk b k bs (.tuple #[.int .i64 said, .int .i64 v]) w r) := by
  obtain ⟨tz, tr, tov, th, tk⟩ := t
  dsimp only [TankAt] at *
  obtain ⟨sa, sn, sc, ha, hn, hc, hb, hB, hS, hH, hne⟩ := hT
  obtain ⟨hz, hz64, hr1, hr2, hr3⟩ := hok
  dsimp only at *
  have hpn : bs.length = pn := by have := hP.1.len; rw [B8_length] at this; omega
  have hhn : th.length = hn := by have := hH.1.rd.len; rw [B8_length] at this; omega
  obtain ⟨i0, hy0, hy1, hy2, hy3⟩ := u8Info
  have hpc := hP.1.le
  have hpm := hP.1.max
  unfold maxLen at hpm
  have c0 := hB.cell 0 rfl
  have c1 := hB.cell 1 rfl
  have c2 := hB.cell 2 rfl
  have c5 := hB.cell 5 rfl
  have c6 := hB.cell 6 rfl
  have f5 := hB.free 5 (by simp)
  have f6 := hB.free 6 (by simp)
  obtain ⟨n, hn0⟩ : ∃ n, cutM tz tk pn = n := ⟨_, rfl⟩
  have hnle : n ≤ pn := by rw [← hn0]; exact cutM_le _ _ _
  have hnpc : n ≤ pc := by omega
  have hnum : Nums w sa sn sc tz := hS.1
  have hzl := hnum.len
  have HH := Lib.hid hH
  have HP := Lib.hid hP
  have HS := Lib.hid hS
  have HB := Lib.hid hB
  have HN := Lib.hid hne
  have HN2 := Lib.hid hn0
  have HSA := Lib.hid hsaid
  have HV := Lib.hid hv
  clear hsaid hv hH hP hS hB hne
  by_cases h0 : sn = 0
  · subst h0
    have hx' : n = pn := by unfold cutM at hn0; rw [if_pos hzl] at hn0; exact hn0.symm
    subst hx'
    clear hn0 hnum hzl hz hz64
    by_cases hfull : 0 ≤ tr ∧ tr - hn < n
    · obtain ⟨q, hq⟩ : ∃ q : Nat, (q : Int) = tr - hn := ⟨(tr - hn).toNat, by have := hr3 hfull.1; omega⟩
      have htk : (Tank.mk tz tr tov th tk).took bs.length = q := by unfold Tank.took; dsimp only; rw [hpn, HN2.out, hhn, if_pos hfull]; omega
      have hfl : (Tank.mk tz tr tov th tk).full bs.length = true := by unfold Tank.full; dsimp only; rw [hpn, HN2.out, hhn]; simpa using hfull
      have hqn : q ≤ n := by omega
      have hqp : q ≤ n := by omega
      have hqpc : q ≤ pc := by omega
      have hrp : decide (tr ≥ 0) = true := by simpa using hfull.1
      have hrq : tr - (hn : Int) = (q : Int) := hq.symm
      have hlt2 : decide ((q : Int) < n) = true := by simp; omega
      have hlt3 : (q : Int) < n := by omega
      clear hq hfull
      go_enter Tryd.func54, Tryd.ntmps54
      go_wp2
      have g1 : Step (· = k) w r ((w).setCell ⟨b, 6, none⟩ (.int .i64 ((tk : Int) + 1))) r := ((Step.refl _ hbnd).calm (Below.refl _ _)).put _ (fun _ => ⟨k, hb, rfl⟩)
      have hM : Mid w r k b tr tov rd bk th ((tk : Int) + 1) sa 0 sc ha hn hc o pa n pc bs ((w).setCell ⟨b, 6, none⟩ (.int .i64 ((tk : Int) + 1))) :=
        ⟨g1, (HB.out.below (Below.refl _ _)).set (j := 6) _, (HH.out.1.below (Below.refl _ _)).kept (grownBy_setAt _ _ _) (.inl (fun e => HN.out b e rfl)), HP.out.step g1 (fun j hj => fun e => ho (by rw [hj, e]))⟩
      clear g1
      generalize (w).setCell ⟨b, 6, none⟩ (.int .i64 ((tk : Int) + 1)) = w1 at hM ⊢
      have HM := Lib.hid hM
      clear hM c0 c1 c2 c5 c6 f5 f6
      have c1' := HM.out.2.1.cell 1 rfl
      have c2' := HM.out.2.1.cell 2 rfl
      have c5' := HM.out.2.1.cell 5 rfl
      have f5' := HM.out.2.1.free 5 (by simp)
      go_quiet (fail)
      have hM := HM.out.later (below_drewN _ _ nq) ho
      generalize w1.drewN nq = w2 at hM ⊢
      clear HM c1' c2' c5' f5'
      have HM := Lib.hid hM
      clear hM
      have c1' := HM.out.2.1.cell 1 rfl
      have c2' := HM.out.2.1.cell 2 rfl
      have c5' := HM.out.2.1.cell 5 rfl
      have f5' := HM.out.2.1.free 5 (by simp)
      go_wp2
      go_quiet (fail)
      have hM := HM.out.later (below_drewN _ _ nq) ho
      generalize w2.drewN nq = w3 at hM ⊢
      clear HM c1' c2' c5' f5'
      have HM := Lib.hid hM
      clear hM
      have c1' := HM.out.2.1.cell 1 rfl
      have c2' := HM.out.2.1.cell 2 rfl
      have c5' := HM.out.2.1.cell 5 rfl
      have f5' := HM.out.2.1.free 5 (by simp)
      go_wp2
      go_region_law (first | (refine step_append_row rfl _ _ 78 78 rfl 5 i0 (.int .u8 0) 1 1 under78 hy0 hy1 hy2 hy3 rfl rfl HM.out.2.2.1.drew q (B8 (bs.take q)) (Src.ofRd under78 (by rw [B8_take]; simpa using (HM.out.2.2.2.1.take (k := q) (by omega) (by omega) (Nat.le_refl _)).drew) (B8_one _)) (by unfold maxLen; omega) (by omega) (Nat.zero_le _) ?_; intro a' c' w4 hrow hgr hbk; have HR2 := Lib.hid hrow; have HG2 := Lib.hid hgr; have HK2 := Lib.hid hbk; clear hrow hgr hbk; have BB2 := Lib.hid (HM.out.2.1.drew.grown HG2.out (fun e => HN.out _ e rfl)); have c2'' := BB2.out.cell 2 rfl; have c5'' := BB2.out.cell 5 rfl; have f5'' := BB2.out.free 5 (by simp)))
      have HCL := Lib.hid (tank_close (t := ⟨tz, tr, tov, th, tk⟩) (k' := tk + 1) HM.out.1.drew hb HB.out.lt HM.out.2.1.drew HS.out HH.out HN.out HR2.out HG2.out HK2.out)
      have HTK := Lib.hid htk
      have HFL := Lib.hid hfl
      clear htk hfl
      have hs1 : said = q := by rw [← HSA.out]; unfold Tank.said; rw [HFL.out, HTK.out]; rfl
      have hv1 : v = 362 := by rw [← HV.out, HFL.out]; rfl
      subst hs1
      subst hv1
      cases tov
      all_goals
        go_wp2
        refine bodyPost_ret (v := .tuple #[.int .i64 (said : Int), .int .i64 362]) (by simp [results, Tryd.f54, go_sem]) rfl ?_
        refine ⟨rfl, ?_⟩
        have := HCL.out; unfold Tank.put; rw [HTK.out]; exact this
    · have htk : (Tank.mk tz tr tov th tk).took bs.length = n := by unfold Tank.took; dsimp only; rw [hpn, HN2.out, hhn, if_neg hfull]
      have hfl : (Tank.mk tz tr tov th tk).full bs.length = false := by unfold Tank.full; dsimp only; rw [hpn, HN2.out, hhn]; simpa using hfull
      by_cases hr0 : 0 ≤ tr
      · obtain ⟨q, hq⟩ : ∃ q : Nat, (q : Int) = tr - hn := ⟨(tr - hn).toNat, by have := hr3 hr0; omega⟩
        have hrp : decide (tr ≥ 0) = true := by simpa using hr0
        have hrq : tr - (hn : Int) = (q : Int) := hq.symm
        have hlt2 : decide ((q : Int) < n) = false := by simp; omega
        have hlt1 : decide (q < n) = false := by simp; omega
        clear hq hfull
        go_enter Tryd.func54, Tryd.ntmps54
        go_wp2
        have g1 : Step (· = k) w r ((w).setCell ⟨b, 6, none⟩ (.int .i64 ((tk : Int) + 1))) r := ((Step.refl _ hbnd).calm (Below.refl _ _)).put _ (fun _ => ⟨k, hb, rfl⟩)
        have hM : Mid w r k b tr tov rd bk th ((tk : Int) + 1) sa 0 sc ha hn hc o pa n pc bs ((w).setCell ⟨b, 6, none⟩ (.int .i64 ((tk : Int) + 1))) :=
          ⟨g1, (HB.out.below (Below.refl _ _)).set (j := 6) _, (HH.out.1.below (Below.refl _ _)).kept (grownBy_setAt _ _ _) (.inl (fun e => HN.out b e rfl)), HP.out.step g1 (fun j hj => fun e => ho (by rw [hj, e]))⟩
        clear g1
        generalize (w).setCell ⟨b, 6, none⟩ (.int .i64 ((tk : Int) + 1)) = w1 at hM ⊢
        have HM := Lib.hid hM
        clear hM c0 c1 c2 c5 c6 f5 f6
        have c1' := HM.out.2.1.cell 1 rfl
        have c2' := HM.out.2.1.cell 2 rfl
        have c5' := HM.out.2.1.cell 5 rfl
        have f5' := HM.out.2.1.free 5 (by simp)
        go_quiet (fail)
        have hM := HM.out.later (below_drewN _ _ nq) ho
        generalize w1.drewN nq = w2 at hM ⊢
        clear HM c1' c2' c5' f5'
        have HM := Lib.hid hM
        clear hM
        have c1' := HM.out.2.1.cell 1 rfl
        have c2' := HM.out.2.1.cell 2 rfl
        have c5' := HM.out.2.1.cell 5 rfl
        have f5' := HM.out.2.1.free 5 (by simp)
        go_wp2
        go_region_law (first | (refine step_append_row rfl _ _ 78 78 rfl 5 i0 (.int .u8 0) 1 1 under78 hy0 hy1 hy2 hy3 rfl rfl HM.out.2.2.1.drew n (B8 (bs.take n)) (Src.ofRd under78 (by rw [B8_take]; simpa using (HM.out.2.2.2.1.take (k := n) (by omega) (by omega) (Nat.le_refl _)).drew) (B8_one _)) (by unfold maxLen; omega) (by omega) (Nat.zero_le _) ?_; intro a' c' w4 hrow hgr hbk; have HR2 := Lib.hid hrow; have HG2 := Lib.hid hgr; have HK2 := Lib.hid hbk; clear hrow hgr hbk; have BB2 := Lib.hid (HM.out.2.1.drew.grown HG2.out (fun e => HN.out _ e rfl)); have c2'' := BB2.out.cell 2 rfl; have c5'' := BB2.out.cell 5 rfl; have f5'' := BB2.out.free 5 (by simp)))
        have HCL := Lib.hid (tank_close (t := ⟨tz, tr, tov, th, tk⟩) (k' := tk + 1) HM.out.1.drew hb HB.out.lt HM.out.2.1.drew HS.out HH.out HN.out HR2.out HG2.out HK2.out)
        have HTK := Lib.hid htk
        have HFL := Lib.hid hfl
        clear htk hfl
        cases tov
        · have hs1 : said = n := by rw [← HSA.out]; unfold Tank.said; rw [HFL.out, HTK.out]; rfl
          have hv1 : v = 0 := by rw [← HV.out, HFL.out]; rfl
          subst hs1
          subst hv1
          go_wp2
          refine bodyPost_ret (v := .tuple #[.int .i64 (said : Int), .int .i64 0]) (by simp [results, Tryd.f54, go_sem]) rfl ?_
          refine ⟨rfl, ?_⟩
          have := HCL.out; unfold Tank.put; rw [HTK.out]; exact this
        · have hs1 : said = n + 1 := by rw [← HSA.out]; unfold Tank.said; rw [HFL.out, hpn]; rfl
          have hv1 : v = 0 := by rw [← HV.out, HFL.out]; rfl
          subst hs1
          subst hv1
          go_wp2
          refine bodyPost_ret (v := .tuple #[.int .i64 ((n : Int) + 1), .int .i64 0]) (by simp [results, Tryd.f54, go_sem]) rfl ?_
          refine ⟨rfl, ?_⟩
          have := HCL.out; unfold Tank.put; rw [HTK.out]; exact this
      · have hr0' : decide (tr ≥ 0) = false := by simpa using hr0
        clear hfull
        go_enter Tryd.func54, Tryd.ntmps54
        go_wp2
        have g1 : Step (· = k) w r ((w).setCell ⟨b, 6, none⟩ (.int .i64 ((tk : Int) + 1))) r := ((Step.refl _ hbnd).calm (Below.refl _ _)).put _ (fun _ => ⟨k, hb, rfl⟩)
        have hM : Mid w r k b tr tov rd bk th ((tk : Int) + 1) sa 0 sc ha hn hc o pa n pc bs ((w).setCell ⟨b, 6, none⟩ (.int .i64 ((tk : Int) + 1))) :=
          ⟨g1, (HB.out.below (Below.refl _ _)).set (j := 6) _, (HH.out.1.below (Below.refl _ _)).kept (grownBy_setAt _ _ _) (.inl (fun e => HN.out b e rfl)), HP.out.step g1 (fun j hj => fun e => ho (by rw [hj, e]))⟩
        clear g1
        generalize (w).setCell ⟨b, 6, none⟩ (.int .i64 ((tk : Int) + 1)) = w1 at hM ⊢
        have HM := Lib.hid hM
        clear hM c0 c1 c2 c5 c6 f5 f6
        have c1' := HM.out.2.1.cell 1 rfl
        have c2' := HM.out.2.1.cell 2 rfl
        have c5' := HM.out.2.1.cell 5 rfl
        have f5' := HM.out.2.1.free 5 (by simp)
        go_quiet (fail)
        have hM := HM.out.later (below_drewN _ _ nq) ho
        generalize w1.drewN nq = w2 at hM ⊢
        clear HM c1' c2' c5' f5'
        have HM := Lib.hid hM
        clear hM
        have c1' := HM.out.2.1.cell 1 rfl
        have c2' := HM.out.2.1.cell 2 rfl
        have c5' := HM.out.2.1.cell 5 rfl
        have f5' := HM.out.2.1.free 5 (by simp)
        go_wp2
        go_region_law (first | (refine step_append_row rfl _ _ 78 78 rfl 5 i0 (.int .u8 0) 1 1 under78 hy0 hy1 hy2 hy3 rfl rfl HM.out.2.2.1.drew n (B8 (bs.take n)) (Src.ofRd under78 (by rw [B8_take]; simpa using (HM.out.2.2.2.1.take (k := n) (by omega) (by omega) (Nat.le_refl _)).drew) (B8_one _)) (by unfold maxLen; omega) (by omega) (Nat.zero_le _) ?_; intro a' c' w4 hrow hgr hbk; have HR2 := Lib.hid hrow; have HG2 := Lib.hid hgr; have HK2 := Lib.hid hbk; clear hrow hgr hbk; have BB2 := Lib.hid (HM.out.2.1.drew.grown HG2.out (fun e => HN.out _ e rfl)); have c2'' := BB2.out.cell 2 rfl; have c5'' := BB2.out.cell 5 rfl; have f5'' := BB2.out.free 5 (by simp)))
        have HCL := Lib.hid (tank_close (t := ⟨tz, tr, tov, th, tk⟩) (k' := tk + 1) HM.out.1.drew hb HB.out.lt HM.out.2.1.drew HS.out HH.out HN.out HR2.out HG2.out HK2.out)
        have HTK := Lib.hid htk
        have HFL := Lib.hid hfl
        clear htk hfl
        cases tov
        · have hs1 : said = n := by rw [← HSA.out]; unfold Tank.said; rw [HFL.out, HTK.out]; rfl
          have hv1 : v = 0 := by rw [← HV.out, HFL.out]; rfl
          subst hs1
          subst hv1
          go_wp2
          refine bodyPost_ret (v := .tuple #[.int .i64 (said : Int), .int .i64 0]) (by simp [results, Tryd.f54, go_sem]) rfl ?_
          refine ⟨rfl, ?_⟩
          have := HCL.out; unfold Tank.put; rw [HTK.out]; exact this
        · have hs1 : said = n + 1 := by rw [← HSA.out]; unfold Tank.said; rw [HFL.out, hpn]; rfl
          have hv1 : v = 0 := by rw [← HV.out, HFL.out]; rfl
          subst hs1
          subst hv1
          go_wp2
          refine bodyPost_ret (v := .tuple #[.int .i64 ((n : Int) + 1), .int .i64 0]) (by simp [results, Tryd.f54, go_sem]) rfl ?_
          refine ⟨rfl, ?_⟩
          have := HCL.out; unfold Tank.put; rw [HTK.out]; exact this
  · obtain ⟨hcap, hmax⟩ := hnum.bounds
    have hkl : tk % sn < sn := Nat.mod_lt _ (by omega)
    obtain ⟨b1, off, rfl, hb1, e0⟩ := hnum.at hkl
    unfold cutM at hn0
    rw [if_neg (by omega), hzl] at hn0
    have hz1 : 0 ≤ (tz[tk % sn]?).getD 0 ∧ (tz[tk % sn]?).getD 0 ≤ 65535 := by
      have : tk % sn < tz.length := by omega
      simp only [List.getElem?_eq_getElem this, Option.getD_some]
      exact hz _ (List.getElem_mem _)
    generalize (tz[tk % sn]?).getD 0 = z at e0 hn0 hz1
    obtain ⟨hz0, hz2⟩ := hz1
    have h1 : (if (pn : Int) < z then (pn : Int) else z) = n := by rw [← hn0]; split <;> omega
    have h2 : (if z < (pn : Int) then z else (pn : Int)) = n := by rw [← hn0]; split <;> omega
    have hmd : ((tk : Int)).tmod (sn : Int) = ((tk % sn : Nat) : Int) := by rw [Int.ofNat_tmod]
    have hlt : ((tk % sn : Nat) : Int) < (sn : Int) := by omega
    have hge : (0 : Int) ≤ ((tk % sn : Nat) : Int) := by omega
    generalize tk % sn = d at *
    have hp : (0 : Int) < (sn : Int) := by omega
    clear hn0 hnum hzl hz hz64 hz0 hz2
    by_cases hfull : 0 ≤ tr ∧ tr - hn < n
    · obtain ⟨q, hq⟩ : ∃ q : Nat, (q : Int) = tr - hn := ⟨(tr - hn).toNat, by have := hr3 hfull.1; omega⟩
      have htk : (Tank.mk tz tr tov th tk).took bs.length = q := by unfold Tank.took; dsimp only; rw [hpn, HN2.out, hhn, if_pos hfull]; omega
      have hfl : (Tank.mk tz tr tov th tk).full bs.length = true := by unfold Tank.full; dsimp only; rw [hpn, HN2.out, hhn]; simpa using hfull
      have hqn : q ≤ n := by omega
      have hqp : q ≤ pn := by omega
      have hqpc : q ≤ pc := by omega
      have hrp : decide (tr ≥ 0) = true := by simpa using hfull.1
      have hrq : tr - (hn : Int) = (q : Int) := hq.symm
      have hlt2 : decide ((q : Int) < n) = true := by simp; omega
      have hlt3 : (q : Int) < n := by omega
      clear hq hfull
      go_enter Tryd.func54, Tryd.ntmps54
      go_wp2
      go_quiet (fail)
      go_wp2
      have g1 : Step (· = k) w r ((w.drewN nq).setCell ⟨b, 6, none⟩ (.int .i64 ((tk : Int) + 1))) r := ((Step.refl _ hbnd).calm (below_drewN _ _ _)).put _ (fun _ => ⟨k, hb, rfl⟩)
      have hM : Mid w r k b tr tov rd bk th ((tk : Int) + 1) (some ⟨b1, off, none⟩) sn sc ha hn hc o pa pn pc bs ((w.drewN nq).setCell ⟨b, 6, none⟩ (.int .i64 ((tk : Int) + 1))) :=
        ⟨g1, (HB.out.below (below_drewN _ _ _)).set (j := 6) _, (HH.out.1.below (below_drewN _ _ _)).kept (grownBy_setAt _ _ _) (.inl (fun e => HN.out b e rfl)), HP.out.step g1 (fun j hj => fun e => ho (by rw [hj, e]))⟩
      clear g1
      generalize (w.drewN nq).setCell ⟨b, 6, none⟩ (.int .i64 ((tk : Int) + 1)) = w1 at hM ⊢
      have HM := Lib.hid hM
      clear hM c0 c1 c2 c5 c6 f5 f6
      have c1' := HM.out.2.1.cell 1 rfl
      have c2' := HM.out.2.1.cell 2 rfl
      have c5' := HM.out.2.1.cell 5 rfl
      have f5' := HM.out.2.1.free 5 (by simp)
      go_quiet (fail)
      have hM := HM.out.later (below_drewN _ _ nq) ho
      generalize w1.drewN nq = w2 at hM ⊢
      clear HM c1' c2' c5' f5'
      have HM := Lib.hid hM
      clear hM
      have c1' := HM.out.2.1.cell 1 rfl
      have c2' := HM.out.2.1.cell 2 rfl
      have c5' := HM.out.2.1.cell 5 rfl
      have f5' := HM.out.2.1.free 5 (by simp)
      go_wp2
      go_quiet (fail)
      have hM := HM.out.later (below_drewN _ _ nq) ho
      generalize w2.drewN nq = w3 at hM ⊢
      clear HM c1' c2' c5' f5'
      have HM := Lib.hid hM
      clear hM
      have c1' := HM.out.2.1.cell 1 rfl
      have c2' := HM.out.2.1.cell 2 rfl
      have c5' := HM.out.2.1.cell 5 rfl
      have f5' := HM.out.2.1.free 5 (by simp)
      go_wp2
      go_region_law (first | (refine step_append_row rfl _ _ 78 78 rfl 5 i0 (.int .u8 0) 1 1 under78 hy0 hy1 hy2 hy3 rfl rfl HM.out.2.2.1.drew q (B8 (bs.take q)) (Src.ofRd under78 (by rw [B8_take]; simpa using (HM.out.2.2.2.1.take (k := q) (by omega) (by omega) (Nat.le_refl _)).drew) (B8_one _)) (by unfold maxLen; omega) (by omega) (Nat.zero_le _) ?_; intro a' c' w4 hrow hgr hbk; have HR2 := Lib.hid hrow; have HG2 := Lib.hid hgr; have HK2 := Lib.hid hbk; clear hrow hgr hbk; have BB2 := Lib.hid (HM.out.2.1.drew.grown HG2.out (fun e => HN.out _ e rfl)); have c2'' := BB2.out.cell 2 rfl; have c5'' := BB2.out.cell 5 rfl; have f5'' := BB2.out.free 5 (by simp)))
      have HCL := Lib.hid (tank_close (t := ⟨tz, tr, tov, th, tk⟩) (k' := tk + 1) HM.out.1.drew hb HB.out.lt HM.out.2.1.drew HS.out HH.out HN.out HR2.out HG2.out HK2.out)
      have HTK := Lib.hid htk
      have HFL := Lib.hid hfl
      clear htk hfl
      have hs1 : said = q := by rw [← HSA.out]; unfold Tank.said; rw [HFL.out, HTK.out]; rfl
      have hv1 : v = 362 := by rw [← HV.out, HFL.out]; rfl
      subst hs1
      subst hv1
      cases tov
      all_goals
        go_wp2
        refine bodyPost_ret (v := .tuple #[.int .i64 (said : Int), .int .i64 362]) (by simp [results, Tryd.f54, go_sem]) rfl ?_
        refine ⟨rfl, ?_⟩
        have := HCL.out; unfold Tank.put; rw [HTK.out]; exact this
    · have htk : (Tank.mk tz tr tov th tk).took bs.length = n := by unfold Tank.took; dsimp only; rw [hpn, HN2.out, hhn, if_neg hfull]
      have hfl : (Tank.mk tz tr tov th tk).full bs.length = false := by unfold Tank.full; dsimp only; rw [hpn, HN2.out, hhn]; simpa using hfull
      by_cases hr0 : 0 ≤ tr
      · obtain ⟨q, hq⟩ : ∃ q : Nat, (q : Int) = tr - hn := ⟨(tr - hn).toNat, by have := hr3 hr0; omega⟩
        have hrp : decide (tr ≥ 0) = true := by simpa using hr0
        have hrq : tr - (hn : Int) = (q : Int) := hq.symm
        have hlt2 : decide ((q : Int) < n) = false := by simp; omega
        have hlt1 : decide (q < n) = false := by simp; omega
        clear hq hfull
        go_enter Tryd.func54, Tryd.ntmps54
        go_wp2
        go_quiet (fail)
        go_wp2
        have g1 : Step (· = k) w r ((w.drewN nq).setCell ⟨b, 6, none⟩ (.int .i64 ((tk : Int) + 1))) r := ((Step.refl _ hbnd).calm (below_drewN _ _ _)).put _ (fun _ => ⟨k, hb, rfl⟩)
        have hM : Mid w r k b tr tov rd bk th ((tk : Int) + 1) (some ⟨b1, off, none⟩) sn sc ha hn hc o pa pn pc bs ((w.drewN nq).setCell ⟨b, 6, none⟩ (.int .i64 ((tk : Int) + 1))) :=
          ⟨g1, (HB.out.below (below_drewN _ _ _)).set (j := 6) _, (HH.out.1.below (below_drewN _ _ _)).kept (grownBy_setAt _ _ _) (.inl (fun e => HN.out b e rfl)), HP.out.step g1 (fun j hj => fun e => ho (by rw [hj, e]))⟩
        clear g1
        generalize (w.drewN nq).setCell ⟨b, 6, none⟩ (.int .i64 ((tk : Int) + 1)) = w1 at hM ⊢
        have HM := Lib.hid hM
        clear hM c0 c1 c2 c5 c6 f5 f6
        have c1' := HM.out.2.1.cell 1 rfl
        have c2' := HM.out.2.1.cell 2 rfl
        have c5' := HM.out.2.1.cell 5 rfl
        have f5' := HM.out.2.1.free 5 (by simp)
        go_quiet (fail)
        have hM := HM.out.later (below_drewN _ _ nq) ho
        generalize w1.drewN nq = w2 at hM ⊢
        clear HM c1' c2' c5' f5'
        have HM := Lib.hid hM
        clear hM
        have c1' := HM.out.2.1.cell 1 rfl
        have c2' := HM.out.2.1.cell 2 rfl
        have c5' := HM.out.2.1.cell 5 rfl
        have f5' := HM.out.2.1.free 5 (by simp)
        go_wp2
        go_region_law (first | (refine step_append_row rfl _ _ 78 78 rfl 5 i0 (.int .u8 0) 1 1 under78 hy0 hy1 hy2 hy3 rfl rfl HM.out.2.2.1.drew n (B8 (bs.take n)) (Src.ofRd under78 (by rw [B8_take]; simpa using (HM.out.2.2.2.1.take (k := n) (by omega) (by omega) (Nat.le_refl _)).drew) (B8_one _)) (by unfold maxLen; omega) (by omega) (Nat.zero_le _) ?_; intro a' c' w4 hrow hgr hbk; have HR2 := Lib.hid hrow; have HG2 := Lib.hid hgr; have HK2 := Lib.hid hbk; clear hrow hgr hbk; have BB2 := Lib.hid (HM.out.2.1.drew.grown HG2.out (fun e => HN.out _ e rfl)); have c2'' := BB2.out.cell 2 rfl; have c5'' := BB2.out.cell 5 rfl; have f5'' := BB2.out.free 5 (by simp)))
        have HCL := Lib.hid (tank_close (t := ⟨tz, tr, tov, th, tk⟩) (k' := tk + 1) HM.out.1.drew hb HB.out.lt HM.out.2.1.drew HS.out HH.out HN.out HR2.out HG2.out HK2.out)
        have HTK := Lib.hid htk
        have HFL := Lib.hid hfl
        clear htk hfl
        cases tov
        · have hs1 : said = n := by rw [← HSA.out]; unfold Tank.said; rw [HFL.out, HTK.out]; rfl
          have hv1 : v = 0 := by rw [← HV.out, HFL.out]; rfl
          subst hs1
          subst hv1
          go_wp2
          refine bodyPost_ret (v := .tuple #[.int .i64 (said : Int), .int .i64 0]) (by simp [results, Tryd.f54, go_sem]) rfl ?_
          refine ⟨rfl, ?_⟩
          have := HCL.out; unfold Tank.put; rw [HTK.out]; exact this
        · have hs1 : said = pn + 1 := by rw [← HSA.out]; unfold Tank.said; rw [HFL.out, hpn]; rfl
          have hv1 : v = 0 := by rw [← HV.out, HFL.out]; rfl
          subst hs1
          subst hv1
          go_wp2
          refine bodyPost_ret (v := .tuple #[.int .i64 ((pn : Int) + 1), .int .i64 0]) (by simp [results, Tryd.f54, go_sem]) rfl ?_
          refine ⟨rfl, ?_⟩
          have := HCL.out; unfold Tank.put; rw [HTK.out]; exact this
      · have hr0' : decide (tr ≥ 0) = false := by simpa using hr0
        clear hfull
        go_enter Tryd.func54, Tryd.ntmps54
        go_wp2
        go_quiet (fail)
        go_wp2
        have g1 : Step (· = k) w r ((w.drewN nq).setCell ⟨b, 6, none⟩ (.int .i64 ((tk : Int) + 1))) r := ((Step.refl _ hbnd).calm (below_drewN _ _ _)).put _ (fun _ => ⟨k, hb, rfl⟩)
        have hM : Mid w r k b tr tov rd bk th ((tk : Int) + 1) (some ⟨b1, off, none⟩) sn sc ha hn hc o pa pn pc bs ((w.drewN nq).setCell ⟨b, 6, none⟩ (.int .i64 ((tk : Int) + 1))) :=
          ⟨g1, (HB.out.below (below_drewN _ _ _)).set (j := 6) _, (HH.out.1.below (below_drewN _ _ _)).kept (grownBy_setAt _ _ _) (.inl (fun e => HN.out b e rfl)), HP.out.step g1 (fun j hj => fun e => ho (by rw [hj, e]))⟩
        clear g1
        generalize (w.drewN nq).setCell ⟨b, 6, none⟩ (.int .i64 ((tk : Int) + 1)) = w1 at hM ⊢
        have HM := Lib.hid hM
        clear hM c0 c1 c2 c5 c6 f5 f6
        have c1' := HM.out.2.1.cell 1 rfl
        have c2' := HM.out.2.1.cell 2 rfl
        have c5' := HM.out.2.1.cell 5 rfl
        have f5' := HM.out.2.1.free 5 (by simp)
        go_quiet (fail)
        have hM := HM.out.later (below_drewN _ _ nq) ho
        generalize w1.drewN nq = w2 at hM ⊢
        clear HM c1' c2' c5' f5'
        have HM := Lib.hid hM
        clear hM
        have c1' := HM.out.2.1.cell 1 rfl
        have c2' := HM.out.2.1.cell 2 rfl
        have c5' := HM.out.2.1.cell 5 rfl
        have f5' := HM.out.2.1.free 5 (by simp)
        go_wp2
        go_region_law (first | (refine step_append_row rfl _ _ 78 78 rfl 5 i0 (.int .u8 0) 1 1 under78 hy0 hy1 hy2 hy3 rfl rfl HM.out.2.2.1.drew n (B8 (bs.take n)) (Src.ofRd under78 (by rw [B8_take]; simpa using (HM.out.2.2.2.1.take (k := n) (by omega) (by omega) (Nat.le_refl _)).drew) (B8_one _)) (by unfold maxLen; omega) (by omega) (Nat.zero_le _) ?_; intro a' c' w4 hrow hgr hbk; have HR2 := Lib.hid hrow; have HG2 := Lib.hid hgr; have HK2 := Lib.hid hbk; clear hrow hgr hbk; have BB2 := Lib.hid (HM.out.2.1.drew.grown HG2.out (fun e => HN.out _ e rfl)); have c2'' := BB2.out.cell 2 rfl; have c5'' := BB2.out.cell 5 rfl; have f5'' := BB2.out.free 5 (by simp)))
        have HCL := Lib.hid (tank_close (t := ⟨tz, tr, tov, th, tk⟩) (k' := tk + 1) HM.out.1.drew hb HB.out.lt HM.out.2.1.drew HS.out HH.out HN.out HR2.out HG2.out HK2.out)
        have HTK := Lib.hid htk
        have HFL := Lib.hid hfl
        clear htk hfl
        cases tov
        · have hs1 : said = n := by rw [← HSA.out]; unfold Tank.said; rw [HFL.out, HTK.out]; rfl
          have hv1 : v = 0 := by rw [← HV.out, HFL.out]; rfl
          subst hs1
          subst hv1
          go_wp2
          refine bodyPost_ret (v := .tuple #[.int .i64 (said : Int), .int .i64 0]) (by simp [results, Tryd.f54, go_sem]) rfl ?_
          refine ⟨rfl, ?_⟩
          have := HCL.out; unfold Tank.put; rw [HTK.out]; exact this
        · have hs1 : said = pn + 1 := by rw [← HSA.out]; unfold Tank.said; rw [HFL.out, hpn]; rfl
          have hv1 : v = 0 := by rw [← HV.out, HFL.out]; rfl
          subst hs1
          subst hv1
          go_wp2
          refine bodyPost_ret (v := .tuple #[.int .i64 ((pn : Int) + 1), .int .i64 0]) (by simp [results, Tryd.f54, go_sem]) rfl ?_
          refine ⟨rfl, ?_⟩
          have := HCL.out; unfold Tank.put; rw [HTK.out]; exact this
end Go.Proofs.YtigfgdefgnahpaaDoor
