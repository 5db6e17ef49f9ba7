/-
  The walk of the sink's write (the code's). Not a statement of the seat.
-/
import Derived.Test.YtigfgdefgnahpaaDoorBasics
import Derived.Deep.RegionLaw
import Derived.Deep.RegionWith
import Derived.Deep.RegionHeld3
namespace Go.Proofs.YtigfgdefgnahpaaDoor
open Go.RowKit

theorem u8Info : ∃ i : TypeInfo, Tryd.prog.info? 5 = some i ∧ i.zero = some (.int .u8 0) ∧ i.size = 1 ∧ i.bytes = 1 := by
  have h : (Tryd.prog.info? 5).map (fun i => (i.zero, i.size, i.bytes)) = some (some (.int .u8 0), 1, 1) := by kernel_rfl
  cases hi : Tryd.prog.info? 5 with
  | none => rw [hi] at h; cases h
  | some i =>
    rw [hi] at h
    simp only [Option.map_some, Option.some.injEq, Prod.mk.injEq] at h
    exact ⟨i, rfl, h.1, h.2.1, h.2.2⟩
theorem under78 : Tryd.prog.underlying 78 = some (.slice 5) := by kernel_rfl

theorem Blk.drew {w : World} {b : Nat} {cs : List Value} (h : Blk w b cs) : Blk w.drew b cs := h.below (Below.refl _ _).drew
theorem below_drewN (B : Nat) (w : World) (n : Nat) : Below B w (w.drewN n) := ⟨rfl, rfl, rfl, Nat.le_refl _, fun _ _ => rfl⟩

/-- behind the append and the store of what the tank has -/
theorem tank_close {t : Tank} {rd : Bool} {bk : Int} {b k : Nat} {bs : Bytes} {w w1 w2 : World} {r : Own} {sa ha a' : Option Addr} {sn sc hn hc c' n k' : Nat}
    (g1 : Step (· = k) w r w1 r) (hb : r b = some k) (hbl : b < w.heap.size)
    (B1 : Blk w1 b [.slice sa sn sc, .int .i64 t.room, .bool t.over, .bool rd, .int .i64 bk, .slice ha hn hc, .int .i64 (k' : Int)])
    (hS : RdK w r none 1 sa sn sc (I3 t.sizes)) (hH : RowK w r k 1 ha hn hc (B8 t.has)) (hne : ∀ x, blockOf ha = some x → x ≠ b)
    (hrow : Row 0 w2 1 a' (hn + n) c' (B8 t.has ++ B8 (bs.take n))) (hgr : w1.grownBy w2 (blockOf ha)) (hbk : blockOf a' = blockOf ha ∨ blockOf a' = some w1.heap.size) :
    ∃ r', Step (· = k) w r (w2.setCell ⟨b, 5, none⟩ (.slice a' (hn + n) c')) r' ∧ TankAt (w2.setCell ⟨b, 5, none⟩ (.slice a' (hn + n) c')) r' k b { t with has := t.has ++ bs.take n, k := k' } rd bk := by
  have hlt1 := B1.lt
  have hneB : blockOf ha ≠ some b := fun e => hne b e rfl
  have hneA : ∀ x, blockOf a' = some x → x ≠ b := fun x hx => by
    rcases hbk with h | h
    · exact hne x (by rw [← h]; exact hx)
    · rw [h] at hx; cases hx; omega
  have g2 : Step (· = k) w r w2 r := g1.grown hgr (fun x hx _ => ⟨k, hH.2 x hx, rfl⟩)
  have g3 : Step (· = k) w r (w2.setCell ⟨b, 5, none⟩ (.slice a' (hn + n) c')) r := g2.put _ (fun _ => ⟨k, hb, rfl⟩)
  have B2 : Blk (w2.setCell ⟨b, 5, none⟩ (.slice a' (hn + n) c')) b [.slice sa sn sc, .int .i64 t.room, .bool t.over, .bool rd, .int .i64 bk, .slice a' (hn + n) c', .int .i64 (k' : Int)] := (B1.grown hgr hneB).set (j := 5) _
  have hrow' : Row 0 (w2.setCell ⟨b, 5, none⟩ (.slice a' (hn + n) c')) 1 a' (hn + n) c' (B8 (t.has ++ bs.take n)) := by
    rw [B8_append]
    exact hrow.kept (grownBy_setAt _ _ _) (.inl (fun e => hneA b e rfl))
  rcases hbk with h | h
  · refine ⟨r, g3, sa, sn, sc, a', hn + n, c', hb, B2, hS.step g3 (fun _ h => by cases h), ⟨hrow', fun x hx => hH.2 x (by rw [← h]; exact hx)⟩, hneA⟩
  · have hlt2 := (hrow'.lt _ h).2
    have g4 := g3.give (b := w1.heap.size) (k := k) g1.size hlt2 rfl
    refine ⟨_, g4, sa, sn, sc, a', hn + n, c', by rw [g4.old b hbl]; exact hb, B2, hS.step g4 (fun _ h => by cases h), ⟨hrow', fun x hx => ?_⟩, hneA⟩
    rw [h] at hx
    cases hx
    exact Own.give_same _ _ _

/-- in the midst of a writing -/
def Mid (w : World) (r : Own) (k b : Nat) (tr : Int) (tov rd : Bool) (bk : Int) (th : Bytes) (k' : Int) (sa : Option Addr) (sn sc : Nat) (ha : Option Addr) (hn hc : Nat) (o : Option Nat) (pa : Option Addr) (pn pc : Nat) (bs : Bytes) (w1 : World) : Prop :=
  Step (· = k) w r w1 r ∧ Blk w1 b [.slice sa sn sc, .int .i64 tr, .bool tov, .bool rd, .int .i64 bk, .slice ha hn hc, .int .i64 k'] ∧ Row 0 w1 1 ha hn hc (B8 th) ∧ RdK w1 r o 1 pa pn pc (B8 bs)
theorem Mid.later {w : World} {r : Own} {k b : Nat} {tr : Int} {tov rd : Bool} {bk : Int} {th : Bytes} {k' : Int} {sa : Option Addr} {sn sc : Nat} {ha : Option Addr} {hn hc : Nat} {o : Option Nat} {pa : Option Addr} {pn pc : Nat} {bs : Bytes} {w1 w2 : World}
    (h : Mid w r k b tr tov rd bk th k' sa sn sc ha hn hc o pa pn pc bs w1) (g : Below w1.heap.size w1 w2) (ho : o ≠ some k) : Mid w r k b tr tov rd bk th k' sa sn sc ha hn hc o pa pn pc bs w2 := by
  obtain ⟨h1, h2, h3, h4⟩ := h
  exact ⟨h1.calm g, h2.below g, h3.below g, h4.step ((Step.refl (· = k) h1.bound).calm g) (fun j hj e => ho (by rw [hj, e]))⟩

/-- behind a writing of bs onto the tank -/
def WroteP (t : Tank) (rd : Bool) (bk : Int) (b k : Nat) (bs : Bytes) (v : Value) (w : World) (r : Own) (e : Ending) (w' : World) : Prop :=
  e = .returned v ∧ ∃ r', Step (· = k) w r w' r' ∧ TankAt w' r' k b (t.put bs) rd bk

set_option maxRecDepth 100000 in
set_option maxHeartbeats 1000000 in
theorem writeN {t : Tank} {rd : Bool} {bk : Int} {b k eb : Nat} {o : Option Nat} {pa : Option Addr} {pn pc : Nat} {bs : Bytes} {w : World} {r : Own}
    (hT : TankAt w r k b t rd bk) (hok : t.ok) (hP : RdK w r o 1 pa pn pc (B8 bs)) (ho : o ≠ some k) (hlen : t.has.length + bs.length ≤ 1000000) (hk : t.k < 1000000000000) (hbnd : Bnd w r)
    {said : Nat} {v : Value} (hsaid : t.said bs.length = said) (hv : errV eb (if t.full bs.length then 362 else 0) = v) :
    Calls Tryd.prog 85 #[.pointer (some ⟨b, 0, none⟩), .slice pa pn pc] w (WroteP t rd bk b k bs (.tuple #[.int .i64 said, v]) w r) := by
  obtain ⟨tz, tr, tov, th, tk⟩ := t
  dsimp only [TankAt] at *
  obtain ⟨sa, sn, sc, ha, hn, hc, hb, hB, hS, hH, hne⟩ := hT
  obtain ⟨hz, hz64, hr1, hr2, hr3⟩ := hok
  dsimp only at *
  have hpn : bs.length = pn := by have := hP.1.len; rw [B8_length] at this; omega
  have hhn : th.length = hn := by have := hH.1.rd.len; rw [B8_length] at this; omega
  obtain ⟨i0, hy0, hy1, hy2, hy3⟩ := u8Info
  have hpc := hP.1.le
  have hpm := hP.1.max
  unfold maxLen at hpm
  have c0 := hB.cell 0 rfl
  have c1 := hB.cell 1 rfl
  have c2 := hB.cell 2 rfl
  have c5 := hB.cell 5 rfl
  have c6 := hB.cell 6 rfl
  have f5 := hB.free 5 (by simp)
  have f6 := hB.free 6 (by simp)
  obtain ⟨n, hn0⟩ : ∃ n, cutM tz tk pn = n := ⟨_, rfl⟩
  have hnle : n ≤ pn := by rw [← hn0]; exact cutM_le _ _ _
  have hnpc : n ≤ pc := by omega
  have hcut : ∀ wx : World, Below w.heap.size w wx → Calls Tryd.prog 83 #[.slice sa sn sc, .int .i64 tk, .int .i64 pn] wx (fun e w' => e = .returned (.int .i64 n) ∧ w' = wx) := fun wx hx => by
    refine cutN (hS.1.below hx) hz (by omega) hk hn0
  have HCUT := Lib.hid hcut
  have HN2 := Lib.hid hn0
  have HH := Lib.hid hH
  have HP := Lib.hid hP
  have HS := Lib.hid hS
  have HB := Lib.hid hB
  have HN := Lib.hid hne
  have HSA := Lib.hid hsaid
  have HV := Lib.hid hv
  clear hsaid hv hcut hH hP hS hB hne hn0 hz hz64
  by_cases hfull : 0 ≤ tr ∧ tr - hn < n
  · obtain ⟨q, hq⟩ : ∃ q : Nat, (q : Int) = tr - hn := ⟨(tr - hn).toNat, by have := hr3 hfull.1; omega⟩
    have htk : (Tank.mk tz tr tov th tk).took bs.length = q := by unfold Tank.took; dsimp only; rw [hpn, HN2.out, hhn, if_pos hfull]; omega
    have hfl : (Tank.mk tz tr tov th tk).full bs.length = true := by unfold Tank.full; dsimp only; rw [hpn, HN2.out, hhn]; simpa using hfull
    have hqn : q ≤ n := by omega
    have hqp : q ≤ pn := by omega
    have hqpc : q ≤ pc := by omega
    have hrp : decide (tr ≥ 0) = true := by simpa using hfull.1
    have hlt1 : decide (q < n) = true := by simp; omega
    have hlt2 : decide ((q : Int) < n) = true := by simp; omega
    have HQ := Lib.hid hq
    clear hq hfull
    go_enter Tryd.func85, Tryd.ntmps85
    go_wp2
    go_quiet (first | (go_at_call 83; refine Calls.quiet_of_same (HCUT.out _ (below_drewN _ _ _))))
    go_wp2_with fail
    have g1 : Step (· = k) w r ((w.drewN nq).setCell ⟨b, 6, none⟩ (.int .i64 ((tk : Int) + 1))) r := ((Step.refl _ hbnd).calm (below_drewN _ _ _)).put _ (fun _ => ⟨k, hb, rfl⟩)
    have hM : Mid w r k b tr tov rd bk th ((tk : Int) + 1) sa sn sc ha hn hc o pa pn pc bs ((w.drewN nq).setCell ⟨b, 6, none⟩ (.int .i64 ((tk : Int) + 1))) :=
      ⟨g1, (HB.out.below (below_drewN _ _ _)).set (j := 6) _, (HH.out.1.below (below_drewN _ _ _)).kept (grownBy_setAt _ _ _) (.inl (fun e => HN.out b e rfl)), HP.out.step g1 (fun j hj => fun e => ho (by rw [hj, e]))⟩
    clear g1
    generalize (w.drewN nq).setCell ⟨b, 6, none⟩ (.int .i64 ((tk : Int) + 1)) = w1 at hM ⊢
    have HM := Lib.hid hM
    clear hM c0 c1 c2 c5 c6 f5 f6
    have c1' := HM.out.2.1.cell 1 rfl
    have c2' := HM.out.2.1.cell 2 rfl
    have c5' := HM.out.2.1.cell 5 rfl
    have f5' := HM.out.2.1.free 5 (by simp)
    refine (roomN c1' c5' hr1 hr2 (by omega)).mono ?_
    rw [← HQ.out]
    rintro e w2 ⟨rfl, mq, rfl⟩
    have hM := HM.out.later (below_drewN _ _ mq) ho
    generalize w1.drewN mq = w2 at hM ⊢
    clear HM c1' c2' c5' f5'
    have HM := Lib.hid hM
    clear hM
    have c1' := HM.out.2.1.cell 1 rfl
    have c2' := HM.out.2.1.cell 2 rfl
    have c5' := HM.out.2.1.cell 5 rfl
    have f5' := HM.out.2.1.free 5 (by simp)
    go_wp2_with fail
    refine (roomN c1' c5' hr1 hr2 (by omega)).mono ?_
    rw [← HQ.out]
    rintro e w3 ⟨rfl, mq, rfl⟩
    have hM := HM.out.later (below_drewN _ _ mq) ho
    generalize w2.drewN mq = w3 at hM ⊢
    clear HM c1' c2' c5' f5'
    have HM := Lib.hid hM
    clear hM
    have c1' := HM.out.2.1.cell 1 rfl
    have c2' := HM.out.2.1.cell 2 rfl
    have c5' := HM.out.2.1.cell 5 rfl
    have f5' := HM.out.2.1.free 5 (by simp)
    go_wp2
    go_region_law (first | (refine step_append_row rfl _ _ 78 78 rfl 5 i0 (.int .u8 0) 1 1 under78 hy0 hy1 hy2 hy3 rfl rfl HM.out.2.2.1.drew q (B8 (bs.take q)) (Src.ofRd under78 (by rw [B8_take]; simpa using (HM.out.2.2.2.1.take (k := q) (by omega) (by omega) (Nat.le_refl _)).drew) (B8_one _)) (by unfold maxLen; omega) (by omega) (Nat.zero_le _) ?_; intro a' c' w4 hrow hgr hbk; have HR2 := Lib.hid hrow; have HG2 := Lib.hid hgr; have HK2 := Lib.hid hbk; clear hrow hgr hbk; have BB2 := Lib.hid (HM.out.2.1.drew.grown HG2.out (fun e => HN.out _ e rfl)); have c2'' := BB2.out.cell 2 rfl; have c5'' := BB2.out.cell 5 rfl; have f5'' := BB2.out.free 5 (by simp)))
    have HCL := Lib.hid (tank_close (t := ⟨tz, tr, tov, th, tk⟩) (k' := tk + 1) HM.out.1.drew hb HB.out.lt HM.out.2.1.drew HS.out HH.out HN.out HR2.out HG2.out HK2.out)
    have HTK := Lib.hid htk
    have HFL := Lib.hid hfl
    clear htk hfl
    have hs1 : said = q := by rw [← HSA.out]; unfold Tank.said; rw [HFL.out, HTK.out]; rfl
    have hv1 : v = .iface 33 (.int .i64 362) := by rw [← HV.out, HFL.out]; rfl
    subst hs1
    subst hv1
    go_wp2
    refine bodyPost_ret (v := .tuple #[.int .i64 (said : Int), .iface 33 (.int .i64 362)]) (by simp [results, Tryd.f85, go_sem]) rfl ?_
    refine ⟨rfl, ?_⟩
    have := HCL.out; unfold Tank.put; rw [HTK.out]; exact this
  · have htk : (Tank.mk tz tr tov th tk).took bs.length = n := by unfold Tank.took; dsimp only; rw [hpn, HN2.out, hhn, if_neg hfull]
    have hfl : (Tank.mk tz tr tov th tk).full bs.length = false := by unfold Tank.full; dsimp only; rw [hpn, HN2.out, hhn]; simpa using hfull
    by_cases hr0 : 0 ≤ tr
    · obtain ⟨q, hq⟩ : ∃ q : Nat, (q : Int) = tr - hn := ⟨(tr - hn).toNat, by have := hr3 hr0; omega⟩
      have hrp : decide (tr ≥ 0) = true := by simpa using hr0
      have hlt1 : decide (q < n) = false := by simp; omega
      have hlt2 : decide ((q : Int) < n) = false := by simp; omega
      have HQ := Lib.hid hq
      clear hq hfull
      go_enter Tryd.func85, Tryd.ntmps85
      go_wp2
      go_quiet (first | (go_at_call 83; refine Calls.quiet_of_same (HCUT.out _ (below_drewN _ _ _))))
      go_wp2_with fail
      have g1 : Step (· = k) w r ((w.drewN nq).setCell ⟨b, 6, none⟩ (.int .i64 ((tk : Int) + 1))) r := ((Step.refl _ hbnd).calm (below_drewN _ _ _)).put _ (fun _ => ⟨k, hb, rfl⟩)
      have hM : Mid w r k b tr tov rd bk th ((tk : Int) + 1) sa sn sc ha hn hc o pa pn pc bs ((w.drewN nq).setCell ⟨b, 6, none⟩ (.int .i64 ((tk : Int) + 1))) :=
        ⟨g1, (HB.out.below (below_drewN _ _ _)).set (j := 6) _, (HH.out.1.below (below_drewN _ _ _)).kept (grownBy_setAt _ _ _) (.inl (fun e => HN.out b e rfl)), HP.out.step g1 (fun j hj => fun e => ho (by rw [hj, e]))⟩
      clear g1
      generalize (w.drewN nq).setCell ⟨b, 6, none⟩ (.int .i64 ((tk : Int) + 1)) = w1 at hM ⊢
      have HM := Lib.hid hM
      clear hM c0 c1 c2 c5 c6 f5 f6
      have c1' := HM.out.2.1.cell 1 rfl
      have c2' := HM.out.2.1.cell 2 rfl
      have c5' := HM.out.2.1.cell 5 rfl
      have f5' := HM.out.2.1.free 5 (by simp)
      refine (roomN c1' c5' hr1 hr2 (by omega)).mono ?_
      rw [← HQ.out]
      rintro e w2 ⟨rfl, mq, rfl⟩
      have hM := HM.out.later (below_drewN _ _ mq) ho
      generalize w1.drewN mq = w2 at hM ⊢
      clear HM c1' c2' c5' f5'
      have HM := Lib.hid hM
      clear hM
      have c1' := HM.out.2.1.cell 1 rfl
      have c2' := HM.out.2.1.cell 2 rfl
      have c5' := HM.out.2.1.cell 5 rfl
      have f5' := HM.out.2.1.free 5 (by simp)
      go_wp2
      go_region_law (first | (refine step_append_row rfl _ _ 78 78 rfl 5 i0 (.int .u8 0) 1 1 under78 hy0 hy1 hy2 hy3 rfl rfl HM.out.2.2.1.drew n (B8 (bs.take n)) (Src.ofRd under78 (by rw [B8_take]; simpa using (HM.out.2.2.2.1.take (k := n) (by omega) (by omega) (Nat.le_refl _)).drew) (B8_one _)) (by unfold maxLen; omega) (by omega) (Nat.zero_le _) ?_; intro a' c' w4 hrow hgr hbk; have HR2 := Lib.hid hrow; have HG2 := Lib.hid hgr; have HK2 := Lib.hid hbk; clear hrow hgr hbk; have BB2 := Lib.hid (HM.out.2.1.drew.grown HG2.out (fun e => HN.out _ e rfl)); have c2'' := BB2.out.cell 2 rfl; have c5'' := BB2.out.cell 5 rfl; have f5'' := BB2.out.free 5 (by simp)))
      have HCL := Lib.hid (tank_close (t := ⟨tz, tr, tov, th, tk⟩) (k' := tk + 1) HM.out.1.drew hb HB.out.lt HM.out.2.1.drew HS.out HH.out HN.out HR2.out HG2.out HK2.out)
      have HTK := Lib.hid htk
      have HFL := Lib.hid hfl
      clear htk hfl
      cases tov
      · have hs1 : said = n := by rw [← HSA.out]; unfold Tank.said; rw [HFL.out, HTK.out]; rfl
        have hv1 : v = .nilIface := by rw [← HV.out, HFL.out]; rfl
        subst hs1
        subst hv1
        go_wp2
        refine bodyPost_ret (v := .tuple #[.int .i64 (said : Int), .nilIface]) (by simp [results, Tryd.f85, go_sem]) rfl ?_
        refine ⟨rfl, ?_⟩
        have := HCL.out; unfold Tank.put; rw [HTK.out]; exact this
      · have hs1 : said = pn + 1 := by rw [← HSA.out]; unfold Tank.said; rw [HFL.out, hpn]; rfl
        have hv1 : v = .nilIface := by rw [← HV.out, HFL.out]; rfl
        subst hs1
        subst hv1
        go_wp2
        refine bodyPost_ret (v := .tuple #[.int .i64 ((pn : Int) + 1), .nilIface]) (by simp [results, Tryd.f85, go_sem]) rfl ?_
        refine ⟨rfl, ?_⟩
        have := HCL.out; unfold Tank.put; rw [HTK.out]; exact this
    · have hr0' : decide (tr ≥ 0) = false := by simpa using hr0
      clear hfull
      go_enter Tryd.func85, Tryd.ntmps85
      go_wp2
      go_quiet (first | (go_at_call 83; refine Calls.quiet_of_same (HCUT.out _ (below_drewN _ _ _))))
      go_wp2
      have g1 : Step (· = k) w r ((w.drewN nq).setCell ⟨b, 6, none⟩ (.int .i64 ((tk : Int) + 1))) r := ((Step.refl _ hbnd).calm (below_drewN _ _ _)).put _ (fun _ => ⟨k, hb, rfl⟩)
      have hM : Mid w r k b tr tov rd bk th ((tk : Int) + 1) sa sn sc ha hn hc o pa pn pc bs ((w.drewN nq).setCell ⟨b, 6, none⟩ (.int .i64 ((tk : Int) + 1))) :=
        ⟨g1, (HB.out.below (below_drewN _ _ _)).set (j := 6) _, (HH.out.1.below (below_drewN _ _ _)).kept (grownBy_setAt _ _ _) (.inl (fun e => HN.out b e rfl)), HP.out.step g1 (fun j hj => fun e => ho (by rw [hj, e]))⟩
      clear g1
      generalize (w.drewN nq).setCell ⟨b, 6, none⟩ (.int .i64 ((tk : Int) + 1)) = w1 at hM ⊢
      have HM := Lib.hid hM
      clear hM c0 c1 c2 c5 c6 f5 f6
      have c1' := HM.out.2.1.cell 1 rfl
      have c2' := HM.out.2.1.cell 2 rfl
      have c5' := HM.out.2.1.cell 5 rfl
      have f5' := HM.out.2.1.free 5 (by simp)
      go_region_law (first | (refine step_append_row rfl _ _ 78 78 rfl 5 i0 (.int .u8 0) 1 1 under78 hy0 hy1 hy2 hy3 rfl rfl HM.out.2.2.1.drew n (B8 (bs.take n)) (Src.ofRd under78 (by rw [B8_take]; simpa using (HM.out.2.2.2.1.take (k := n) (by omega) (by omega) (Nat.le_refl _)).drew) (B8_one _)) (by unfold maxLen; omega) (by omega) (Nat.zero_le _) ?_; intro a' c' w2 hrow hgr hbk; have HR2 := Lib.hid hrow; have HG2 := Lib.hid hgr; have HK2 := Lib.hid hbk; clear hrow hgr hbk; have BB2 := Lib.hid (HM.out.2.1.drew.grown HG2.out (fun e => HN.out _ e rfl)); have c2'' := BB2.out.cell 2 rfl; have c5'' := BB2.out.cell 5 rfl; have f5'' := BB2.out.free 5 (by simp)))
      have HCL := Lib.hid (tank_close (t := ⟨tz, tr, tov, th, tk⟩) (k' := tk + 1) HM.out.1.drew hb HB.out.lt HM.out.2.1.drew HS.out HH.out HN.out HR2.out HG2.out HK2.out)
      have HTK := Lib.hid htk
      have HFL := Lib.hid hfl
      clear htk hfl
      cases tov
      · have hs1 : said = n := by rw [← HSA.out]; unfold Tank.said; rw [HFL.out, HTK.out]; rfl
        have hv1 : v = .nilIface := by rw [← HV.out, HFL.out]; rfl
        subst hs1
        subst hv1
        go_wp2
        refine bodyPost_ret (v := .tuple #[.int .i64 (said : Int), .nilIface]) (by simp [results, Tryd.f85, go_sem]) rfl ?_
        refine ⟨rfl, ?_⟩
        have := HCL.out; unfold Tank.put; rw [HTK.out]; exact this
      · have hs1 : said = pn + 1 := by rw [← HSA.out]; unfold Tank.said; rw [HFL.out, hpn]; rfl
        have hv1 : v = .nilIface := by rw [← HV.out, HFL.out]; rfl
        subst hs1
        subst hv1
        go_wp2
        refine bodyPost_ret (v := .tuple #[.int .i64 ((pn : Int) + 1), .nilIface]) (by simp [results, Tryd.f85, go_sem]) rfl ?_
        refine ⟨rfl, ?_⟩
        have := HCL.out; unfold Tank.put; rw [HTK.out]; exact this
end Go.Proofs.YtigfgdefgnahpaaDoor
