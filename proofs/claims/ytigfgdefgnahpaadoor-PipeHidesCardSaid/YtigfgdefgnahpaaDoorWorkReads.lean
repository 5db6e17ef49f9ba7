/-
  The walk of Work's reads (the document's). Not a statement of the seat.
-/
import Derived.Test.YtigfgdefgnahpaaDoorWorkBuffer
import Derived.Test.YtigfgdefgnahpaaDoorReadFrom
namespace Go.Proofs.YtigfgdefgnahpaaDoor
open Go.RowKit

/-- another tank -/
theorem WorkAt.tankT {wb : Nat} {x : Wk} {l : List Wr} {s : Sc} {k : List Int} {t t' : Tank} {w w' : World} {r r' : Own} (h : WorkAt w r wb x l s k t) (g : Step (· = 5) w r w' r') (h1 : t'.room = t.room) (h2 : t'.over = t.over) (hT : TankAt w' r' 5 x.tb t' x.rd x.bk) : WorkAt w' r' wb x l s k t' := by
  obtain ⟨hwb, hB, hd, hZ, hP, hQ, hR1, hR2, hR3, hR4, _, hS, hO⟩ := h
  have hB' := hB.step g hwb (by omega)
  refine ⟨g.oldK hB.lt hwb, ?_, hd, hZ.step g (fun _ h => by cases h), hP.step g, hQ.step g, hR1.step g (by omega), hR2.step g (by omega), hR3.step g (by omega), hR4.step g (by omega), hT, fun j tk hj => ?_, hO⟩
  · unfold Wk.cells at hB' ⊢
    rw [h1, h2]
    exact hB'
  · obtain ⟨rdj, bkj, hTj⟩ := hS j tk hj
    exact ⟨rdj, bkj, hTj.step g (by omega)⟩
/-- other counts at the sink -/
def RRel (Res : Cp × Int) (p m wb : Nat) (X : Wk) (w0 : World) (r0 : Own) (f : Nat) (t u : Value) (wx : World) : Prop :=
  ∃ c rx e9, t = .int .i64 (c.tot : Int) ∧ u = .int .i64 e9 ∧ Step KW3 w0 r0 wx rx ∧ WCp wx rx wb X c ∧ c.tot ≤ 65535 ∧ (∀ x ∈ c.k, 0 ≤ x.2 ∧ x.2 ≤ 65535) ∧
    ((e9 = 0 ∧ CpOk p c ∧ c.l.length ≤ 100 ∧ c.s.rem p < f ∧ runM (readRound m) f c = Res) ∨ (e9 ≠ 0 ∧ Res = (c, if e9 = -1 then 0 else e9)))

set_option maxRecDepth 100000 in
set_option maxHeartbeats 8000000 in
theorem readsR {c0 : Cp} {p m wb : Nat} {X : Wk} {w : World} {r : Own} {F : Nat} {Res : Cp × Int} {tot : Nat} {ev : Int} (hbk : X.bk = (m : Int))
    (hW0 : WCp w r wb X c0) (hok0 : CpOk p c0) (hl0 : c0.l.length ≤ 100) (hm1 : 1 ≤ m) (hm2 : m ≤ 1000000) (hbnd0 : Bnd w r) (ht0 : c0.tot = 0) (hF : c0.s.rem p < F)
    (hres0 : readsM m F c0 = Res) (htot : Res.1.tot = tot) (hev : Res.2 = ev) :
    Calls Tryd.prog 36 #[.pointer (some ⟨wb, 0, none⟩)] w (PostV (.tuple #[.int .i64 tot, .int .i64 ev]) (WEnd Res.1 wb X w r)) := by
  obtain ⟨Rz, hRz⟩ : ∃ Rz, runM (readRound m) F c0 = Rz := ⟨_, rfl⟩
  have hRes : Res = ({ Rz.1 with k := Rz.1.k.map (addK Rz.1.tot) }, Rz.2) := by rw [← hres0]; unfold readsM; rw [hRz]
  have hrel0 : RRel Rz p m wb X w r F (.int .i64 0) (.int .i64 0) w := ⟨c0, r, 0, by rw [ht0]; rfl, rfl, Step.refl _ hbnd0, hW0, by omega, fun x hx => (by
      have h1 := hok0.k x hx
      have h2 := hok0.s.2.2.1
      have h3 := hok0.s.2.2.2
      omega), .inl ⟨rfl, hok0, hl0, hF, hRz⟩⟩
  obtain ⟨i0, hy0, hy1, hy2, hy3⟩ := u8Info
  have HREL0 := Lib.hid hrel0
  have HTOT := Lib.hid htot
  have HEV := Lib.hid hev
  have HRES0 := Lib.hid hRes
  have HBK := Lib.hid hbk
  clear hrel0 hW0 hok0 hF hres0 ht0 htot hev hl0 hRz hRes hbk
  clear c0
  go_enter Tryd.func36, Tryd.ntmps36
  go_wp2_with fail
  go_loopw [4, 5] (fun t u wb' => ∃ f, RRel Rz p m wb X w r f t u wb') (fun t u wb' => least (fun f => RRel Rz p m wb X w r f t u wb'))
  case atStart => exact ⟨F, HREL0.out⟩
  case round =>
    obtain ⟨f, hf, hle⟩ : ∃ f, RRel Rz p m wb X w r f u4 u5 wr ∧ f ≤ least (fun f => RRel Rz p m wb X w r f u4 u5 wr) := ⟨_, least_spec hrel, Nat.le_refl _⟩
    have HLE := Lib.hid hle
    clear hle hrel HREL0
    obtain ⟨c, rx, e9, rfl, rfl, g, ⟨hW, hkq⟩, hct, hck, hcase⟩ := hf
    rcases hcase with ⟨rfl, hok, hl, hrem, hres⟩ | ⟨he9, hres⟩
    · obtain ⟨f, rfl⟩ : ∃ f', f = f' + 1 := ⟨f - 1, by omega⟩
      have hgood := readM_good c.l c.s m hok.s hok.l
      have hgl := got_length hok m
      have hp1 := hok.s.2.2.1
      have hp2 := hok.s.2.2.2
      have hp3 := hgood.ok.2.2.1
      rw [hgood.data] at hp3
      have hp4 := hgood.bytes
      have hkk := hok.kk
      have htb := hok.tot
      have hc10 := hW.2.1.cell 10 rfl
      rw [HBK.out] at hc10
      have hrd := readR hW hok.s hok.l (by omega) hm2 hl g.bound
      have hprog := readRound_ok hok hm1
      have hthas := hok.has
      have hn65 : (readM c.l c.s m).n ≤ 65535 := by omega
      have hth2 : c.t.has.length ≤ 65535 := by omega
      obtain ⟨n, hn⟩ : ∃ n, (readM c.l c.s m).n = n := ⟨_, rfl⟩
      obtain ⟨e, he⟩ : ∃ e, (readM c.l c.s m).e = e := ⟨_, rfl⟩
      have hgl' : (c.got m).length = n := by rw [hgl, hn]
      rw [hn] at hn65
      have HTOK := Lib.hid (show ∀ q, q ≤ n → c.tot + q ≤ 65535 by intro q hq; omega)
      have hkin : ∀ x ∈ c.k, 0 ≤ x.2 ∧ x.2 ≤ 65535 := hck
      have HRD := Lib.hid hrd
      have HN1 := Lib.hid hn
      have HE1 := Lib.hid he
      have HG := Lib.hid g
      have HRES := Lib.hid hres
      have HOK := Lib.hid hok
      have HPR := Lib.hid hprog
      have HGL := Lib.hid hgl'
      have HGD := Lib.hid hgood
      have HREM := Lib.hid hrem
      have HL := Lib.hid hl
      have HKQ := Lib.hid hkq
      have HKIN := Lib.hid hkin
      clear hrd hn he g hres hok hprog hgl hgl' hgood hrem hl hkq hck hkin hp1 hp2 hp3 hp4 hkk htb hthas hW
      go_wp2_with fail
      clear hc10
      refine HRD.out.mono ?_
      rintro e' w2 ⟨ra, rc, r2, rfl, g2, hR2, hW2⟩
      rw [HN1.out, HE1.out]
      rw [HN1.out] at hR2
      have g3 : Step KW3 w r w2 r2 := HG.out.trans (g2.mono (fun j hj => by first | exact hj.elim | (unfold KW2 at hj; unfold KW3; omega) | (unfold KW3; omega)))
      have hrl := hR2.1.le
      have hrm := hR2.1.max
      unfold maxLen at hrm
      obtain ⟨hwb2, hWB2, _, _, _, _, _, _, _, _, hT2, _⟩ := id hW2
      obtain ⟨sa, sn, sc, ha, hn, hc, htb, hTB, hSZ, hHS, hne⟩ := hT2
      have hhn : c.t.has.length = hn := by have := hHS.1.rd.len; rw [B8_length] at this; omega
      have hhn9 : hn ≤ 65535 := by omega
      have hrok := HOK.out.t
      have hr1 := hrok.2.2.1
      have hr2 := hrok.2.2.2.1
      have hr3 := hrok.2.2.2.2
      have c18 := hWB2.cell 18 rfl
      have t1 := hTB.cell 1 rfl
      have t5 := hTB.cell 5 rfl
      have G3 := Lib.hid g3
      have HR2 := Lib.hid hR2
      have HW2 := Lib.hid hW2
      have HWB2 := Lib.hid hWB2
      have HWBO := Lib.hid hwb2
      have HTBO := Lib.hid htb
      have HTB := Lib.hid hTB
      have HSZ := Lib.hid hSZ
      have HHS := Lib.hid hHS
      have HNE := Lib.hid hne
      have HHN := Lib.hid hhn
      have HR3 := Lib.hid hr3
      clear HRD HG g2 g3 hR2 hW2 hWB2 hwb2 htb hTB hSZ hHS hne hhn hrok hr3
      by_cases hfull : 0 ≤ c.t.room ∧ c.t.room - hn < n
      · obtain ⟨q, hq⟩ : ∃ q : Nat, (q : Int) = c.t.room - hn := ⟨(c.t.room - hn).toNat, by have := HR3.out hfull.1; have := HHN.out; omega⟩
        have hrp : decide (c.t.room ≥ 0) = true := by simpa using hfull.1
        have hqi : c.t.room - (hn : Int) = q := hq.symm
        have hqn : q ≤ n := by omega
        have hd1 : decide ((n : Int) > q) = true := by simp; omega
        have hd2 : decide (q < n) = true := by simp; omega
        have hti : c.t.tight n = true := by unfold Tank.tight; rw [HHN.out]; simpa using hfull
        have hft : c.t.fits n = q := by unfold Tank.fits; rw [if_pos hti, HHN.out]; omega
        have HB1 := Lib.hid (show readRound m c = (((c.read m).add ((c.got m).take q)).plus q, some 362) by unfold readRound; dsimp only; rw [HN1.out, hft, if_pos hti])
        clear hq hfull hti hft
        go_wp2_with fail
        go_quiet (fail)
        rename Nat => nq1
        go_wp2_with fail
        go_quiet (fail)
        go_wp2_with fail
        have BTB := Lib.hid (HTB.out.below ((below_drewN w2.heap.size w2 nq1).trans (below_drewN w2.heap.size _ nq)))
        have HRX := Lib.hid (HHS.out.1.below ((below_drewN w2.heap.size w2 nq1).trans (below_drewN w2.heap.size _ nq)))
        have hd0 : Step (fun _ => False) w2 r2 (((w2.drewN nq1).drewN nq)) r2 := (Step.refl _ G3.out.bound).calm ((below_drewN w2.heap.size w2 nq1).trans (below_drewN w2.heap.size _ nq))
        have HRR := Lib.hid (HR2.out.step hd0 (fun _ h => by cases h))
        have c18 : (((w2.drewN nq1).drewN nq)).cell? ⟨wb, 18, none⟩ = some (.pointer (some ⟨X.tb, 0, none⟩)) := (HWB2.out.step hd0 HWBO.out id).cell 18 rfl
        have t5 := BTB.out.cell 5 rfl
        have f5 := BTB.out.free 5 (by simp)
        have HWX := Lib.hid (HW2.out.calm hd0)
        have HSZX := Lib.hid (HSZ.out.step hd0 (fun _ h => by cases h))
        have HHSX := Lib.hid (HHS.out.step hd0 id)
        have GX := Lib.hid (G3.out.trans (hd0.mono (fun _ h => h.elim)))
        clear hd0 HW2 HWB2
        generalize ((w2.drewN nq1).drewN nq) = wx at BTB HRX HRR c18 t5 f5 HWX HSZX HHSX GX ⊢
        have hqrc : (q : Int) ≤ rc := by omega
        go_region_law (first | (refine step_append_row rfl _ _ 78 78 rfl 5 i0 (.int .u8 0) 1 1 under78 hy0 hy1 hy2 hy3 rfl rfl HRX.out.drew q (B8 ((c.got m).take q)) (Src.ofRd under78 (by rw [B8_take]; have h9 := HRR.out.1.take (k := q) (by omega) (by omega) (Nat.le_refl _); unfold Cp.got; rw [HN1.out]; simpa using h9.drew) (B8_one _)) (by unfold maxLen; omega) (by omega) (Nat.zero_le _) ?_; intro a' c' w4 hrow hgr hbk; have HROW := Lib.hid hrow; have HGR := Lib.hid hgr; have HBKK := Lib.hid hbk; clear hrow hgr hbk; have BB2 := Lib.hid (BTB.out.drew.grown HGR.out (fun e => HNE.out _ e rfl)); have c18'' := cellGr HGR.out (b := wb) (o := 18) c18 (fun e => by have := HHSX.out.2 _ e.symm; rw [HWBO.out] at this; cases this); have t5'' := BB2.out.cell 5 rfl; have f5'' := BB2.out.free 5 (by simp)))
        all_goals
          have hcl := tank_close (t := c.t) (rd := X.rd) (bk := X.bk) (bs := c.got m) (k' := c.t.k) ((Step.refl (· = 5) GX.out.bound).drew) HTBO.out BTB.out.lt BTB.out.drew HSZX.out HHSX.out HNE.out HROW.out HGR.out HBKK.out
          obtain ⟨r4, g4, hT3⟩ := hcl
          have hW5 := HWX.out.tankT (t' := c.t.add ((c.got m).take q)) g4 rfl rfl hT3
          have GY := Lib.hid (GX.out.trans (g4.mono (fun j hj => by first | exact hj.elim | (unfold KW2 at hj; unfold KW3; omega) | (unfold KW3; omega))))
          have HW5 := Lib.hid hW5
          clear g4 hT3 hW5 c18'' t5'' f5'' BB2 HROW HGR HBKK c18 t5 f5 t1 HRX HRR HWX HSZX HHSX GX BTB
          generalize w4.setCell ⟨X.tb, 5, none⟩ (.slice a' (hn + q) c') = w5 at HW5 GY ⊢
          obtain ⟨T9, hT9⟩ : ∃ T9, c.tot + q = T9 := ⟨_, rfl⟩
          have hT9i : (c.tot : Int) + (q : Nat) = T9 := by omega
          have HT9 := Lib.hid hT9
          have HWC := Lib.hid (show WCp w5 r4 wb X (((c.read m).add ((c.got m).take q)).plus q) from ⟨HW5.out, HKQ.out⟩)
          clear hT9
          go_wp2_with fail
          go_roundw
          case rel =>
            refine ⟨0, (((c.read m).add ((c.got m).take q)).plus q), r4, 362, ?_, rfl, GY.out, HWC.out, ?_, HKIN.out, .inr ⟨by decide, ?_⟩⟩
            · show _ = Value.int .i64 ((c.tot + q : Nat) : Int)
              rw [HT9.out]
            · show c.tot + q ≤ 65535
              exact HTOK.out _ (by omega)
            · rw [← HRES.out, runM_stop (e := 362) (by rw [HB1.out]), HB1.out]; rfl
          case measure =>
            refine Nat.lt_of_le_of_lt (least_le (n := 0) ?_) (by have := HLE.out; omega)
            refine ⟨(((c.read m).add ((c.got m).take q)).plus q), r4, 362, ?_, rfl, GY.out, HWC.out, ?_, HKIN.out, .inr ⟨by decide, ?_⟩⟩
            · show _ = Value.int .i64 ((c.tot + q : Nat) : Int)
              rw [HT9.out]
            · show c.tot + q ≤ 65535
              exact HTOK.out _ (by omega)
            · rw [← HRES.out, runM_stop (e := 362) (by rw [HB1.out]), HB1.out]; rfl
      · have hti : ¬ c.t.tight n = true := by unfold Tank.tight; rw [HHN.out]; simpa using hfull
        have hft : c.t.fits n = n := by unfold Tank.fits; rw [if_neg hti]
        have HB1 := Lib.hid (show readRound m c = (((c.read m).add ((c.got m).take n)).plus n, tailE (readM c.l c.s m).e) by unfold readRound; dsimp only; rw [HN1.out, hft, if_neg hti])
        clear hti hft
        by_cases hr0 : 0 ≤ c.t.room
        · have hrp : decide (c.t.room ≥ 0) = true := by simpa using hr0
          obtain ⟨q, hq⟩ : ∃ q : Nat, (q : Int) = c.t.room - hn := ⟨(c.t.room - hn).toNat, by have := HR3.out hr0; have := HHN.out; omega⟩
          have hqi : c.t.room - (hn : Int) = q := hq.symm
          have hd1 : decide ((n : Int) > q) = false := by simp; omega
          have hd2 : decide (q < n) = false := by simp; omega
          clear hq hfull hr0
          go_wp2_with fail
          go_quiet (fail)
          rename Nat => nq1
          go_wp2_with fail
          have BTB := Lib.hid (HTB.out.below (below_drewN w2.heap.size w2 nq1))
          have HRX := Lib.hid (HHS.out.1.below (below_drewN w2.heap.size w2 nq1))
          have hd0 : Step (fun _ => False) w2 r2 ((w2.drewN nq1)) r2 := (Step.refl _ G3.out.bound).calm (below_drewN w2.heap.size w2 nq1)
          have HRR := Lib.hid (HR2.out.step hd0 (fun _ h => by cases h))
          have c18 : ((w2.drewN nq1)).cell? ⟨wb, 18, none⟩ = some (.pointer (some ⟨X.tb, 0, none⟩)) := (HWB2.out.step hd0 HWBO.out id).cell 18 rfl
          have t5 := BTB.out.cell 5 rfl
          have f5 := BTB.out.free 5 (by simp)
          have HWX := Lib.hid (HW2.out.calm hd0)
          have HSZX := Lib.hid (HSZ.out.step hd0 (fun _ h => by cases h))
          have HHSX := Lib.hid (HHS.out.step hd0 id)
          have GX := Lib.hid (G3.out.trans (hd0.mono (fun _ h => h.elim)))
          clear hd0 HW2 HWB2
          generalize (w2.drewN nq1) = wx at BTB HRX HRR c18 t5 f5 HWX HSZX HHSX GX ⊢
          have hqrc : (n : Int) ≤ rc := by omega
          go_region_law (first | (refine step_append_row rfl _ _ 78 78 rfl 5 i0 (.int .u8 0) 1 1 under78 hy0 hy1 hy2 hy3 rfl rfl HRX.out.drew n (B8 ((c.got m).take n)) (Src.ofRd under78 (by rw [B8_take]; have h9 := HRR.out.1.take (k := n) (by omega) (by omega) (Nat.le_refl _); unfold Cp.got; rw [HN1.out]; simpa using h9.drew) (B8_one _)) (by unfold maxLen; omega) (by omega) (Nat.zero_le _) ?_; intro a' c' w4 hrow hgr hbk; have HROW := Lib.hid hrow; have HGR := Lib.hid hgr; have HBKK := Lib.hid hbk; clear hrow hgr hbk; have BB2 := Lib.hid (BTB.out.drew.grown HGR.out (fun e => HNE.out _ e rfl)); have c18'' := cellGr HGR.out (b := wb) (o := 18) c18 (fun e => by have := HHSX.out.2 _ e.symm; rw [HWBO.out] at this; cases this); have t5'' := BB2.out.cell 5 rfl; have f5'' := BB2.out.free 5 (by simp)))
          all_goals
            have hcl := tank_close (t := c.t) (rd := X.rd) (bk := X.bk) (bs := c.got m) (k' := c.t.k) ((Step.refl (· = 5) GX.out.bound).drew) HTBO.out BTB.out.lt BTB.out.drew HSZX.out HHSX.out HNE.out HROW.out HGR.out HBKK.out
            obtain ⟨r4, g4, hT3⟩ := hcl
            have hW5 := HWX.out.tankT (t' := c.t.add ((c.got m).take n)) g4 rfl rfl hT3
            have GY := Lib.hid (GX.out.trans (g4.mono (fun j hj => by first | exact hj.elim | (unfold KW2 at hj; unfold KW3; omega) | (unfold KW3; omega))))
            have HW5 := Lib.hid hW5
            clear g4 hT3 hW5 c18'' t5'' f5'' BB2 HROW HGR HBKK c18 t5 f5 t1 HRX HRR HWX HSZX HHSX GX BTB
            generalize w4.setCell ⟨X.tb, 5, none⟩ (.slice a' (hn + n) c') = w5 at HW5 GY ⊢
            obtain ⟨T9, hT9⟩ : ∃ T9, c.tot + n = T9 := ⟨_, rfl⟩
            have hT9i : (c.tot : Int) + (n : Nat) = T9 := by omega
            have HT9 := Lib.hid hT9
            have HWC := Lib.hid (show WCp w5 r4 wb X (((c.read m).add ((c.got m).take n)).plus n) from ⟨HW5.out, HKQ.out⟩)
            clear hT9
            go_wp2_with fail
            have hfin : ∃ f', f' ≤ f ∧ RRel Rz p m wb X w r f' (.int .i64 (T9 : Int)) (.int .i64 e) w5 := by
              by_cases he0 : e = 0
              · have hnone : (readRound m c).2 = none := by rw [HB1.out, HE1.out, he0]; rfl
                obtain ⟨k1, k2⟩ := HPR.out hnone
                have hrr : runM (readRound m) f (readRound m c).1 = Rz := by rw [← HRES.out, runM_more hnone]
                rw [HB1.out] at k1 k2 hrr
                refine ⟨f, Nat.le_refl _, (((c.read m).add ((c.got m).take n)).plus n), r4, e, ?_, rfl, GY.out, HWC.out, ?_, HKIN.out, .inl ⟨he0, k1, ?_, ?_, hrr⟩⟩
                · show _ = Value.int .i64 ((c.tot + n : Nat) : Int)
                  rw [HT9.out]
                · show c.tot + n ≤ 65535
                  exact HTOK.out _ (by omega)
                · show (readM c.l c.s m).l.length ≤ 100
                  rw [HGD.out.len]; exact HL.out
                · have := HREM.out; dsimp only at k2; omega
              · refine ⟨0, Nat.zero_le _, (((c.read m).add ((c.got m).take n)).plus n), r4, e, ?_, rfl, GY.out, HWC.out, ?_, HKIN.out, .inr ⟨he0, ?_⟩⟩
                · show _ = Value.int .i64 ((c.tot + n : Nat) : Int)
                  rw [HT9.out]
                · show c.tot + n ≤ 65535
                  exact HTOK.out _ (by omega)
                · have ht : tailE e = some (if e = -1 then 0 else e) := by unfold tailE; split <;> simp_all
                  rw [← HRES.out, runM_stop (e := if e = -1 then 0 else e) (by rw [HB1.out, HE1.out]; exact ht), HB1.out]
            have HFIN := Lib.hid hfin
            clear hfin
            go_roundw
            case rel =>
              obtain ⟨f', _, h⟩ := HFIN.out
              exact ⟨f', h⟩
            case measure =>
              obtain ⟨f', hle, h⟩ := HFIN.out
              exact Nat.lt_of_le_of_lt (least_le h) (by have := HLE.out; omega)
        · have hrp : decide (c.t.room ≥ 0) = false := by simp; omega
          clear hfull hr0
          go_wp2_with fail
          go_quiet (fail)
          rename Nat => nq1
          go_wp2_with fail
          have BTB := Lib.hid (HTB.out.below (below_drewN w2.heap.size w2 nq1))
          have HRX := Lib.hid (HHS.out.1.below (below_drewN w2.heap.size w2 nq1))
          have hd0 : Step (fun _ => False) w2 r2 ((w2.drewN nq1)) r2 := (Step.refl _ G3.out.bound).calm (below_drewN w2.heap.size w2 nq1)
          have HRR := Lib.hid (HR2.out.step hd0 (fun _ h => by cases h))
          have c18 : ((w2.drewN nq1)).cell? ⟨wb, 18, none⟩ = some (.pointer (some ⟨X.tb, 0, none⟩)) := (HWB2.out.step hd0 HWBO.out id).cell 18 rfl
          have t5 := BTB.out.cell 5 rfl
          have f5 := BTB.out.free 5 (by simp)
          have HWX := Lib.hid (HW2.out.calm hd0)
          have HSZX := Lib.hid (HSZ.out.step hd0 (fun _ h => by cases h))
          have HHSX := Lib.hid (HHS.out.step hd0 id)
          have GX := Lib.hid (G3.out.trans (hd0.mono (fun _ h => h.elim)))
          clear hd0 HW2 HWB2
          generalize (w2.drewN nq1) = wx at BTB HRX HRR c18 t5 f5 HWX HSZX HHSX GX ⊢
          have hqrc : (n : Int) ≤ rc := by omega
          go_region_law (first | (refine step_append_row rfl _ _ 78 78 rfl 5 i0 (.int .u8 0) 1 1 under78 hy0 hy1 hy2 hy3 rfl rfl HRX.out.drew n (B8 ((c.got m).take n)) (Src.ofRd under78 (by rw [B8_take]; have h9 := HRR.out.1.take (k := n) (by omega) (by omega) (Nat.le_refl _); unfold Cp.got; rw [HN1.out]; simpa using h9.drew) (B8_one _)) (by unfold maxLen; omega) (by omega) (Nat.zero_le _) ?_; intro a' c' w4 hrow hgr hbk; have HROW := Lib.hid hrow; have HGR := Lib.hid hgr; have HBKK := Lib.hid hbk; clear hrow hgr hbk; have BB2 := Lib.hid (BTB.out.drew.grown HGR.out (fun e => HNE.out _ e rfl)); have c18'' := cellGr HGR.out (b := wb) (o := 18) c18 (fun e => by have := HHSX.out.2 _ e.symm; rw [HWBO.out] at this; cases this); have t5'' := BB2.out.cell 5 rfl; have f5'' := BB2.out.free 5 (by simp)))
          all_goals
            have hcl := tank_close (t := c.t) (rd := X.rd) (bk := X.bk) (bs := c.got m) (k' := c.t.k) ((Step.refl (· = 5) GX.out.bound).drew) HTBO.out BTB.out.lt BTB.out.drew HSZX.out HHSX.out HNE.out HROW.out HGR.out HBKK.out
            obtain ⟨r4, g4, hT3⟩ := hcl
            have hW5 := HWX.out.tankT (t' := c.t.add ((c.got m).take n)) g4 rfl rfl hT3
            have GY := Lib.hid (GX.out.trans (g4.mono (fun j hj => by first | exact hj.elim | (unfold KW2 at hj; unfold KW3; omega) | (unfold KW3; omega))))
            have HW5 := Lib.hid hW5
            clear g4 hT3 hW5 c18'' t5'' f5'' BB2 HROW HGR HBKK c18 t5 f5 t1 HRX HRR HWX HSZX HHSX GX BTB
            generalize w4.setCell ⟨X.tb, 5, none⟩ (.slice a' (hn + n) c') = w5 at HW5 GY ⊢
            obtain ⟨T9, hT9⟩ : ∃ T9, c.tot + n = T9 := ⟨_, rfl⟩
            have hT9i : (c.tot : Int) + (n : Nat) = T9 := by omega
            have HT9 := Lib.hid hT9
            have HWC := Lib.hid (show WCp w5 r4 wb X (((c.read m).add ((c.got m).take n)).plus n) from ⟨HW5.out, HKQ.out⟩)
            clear hT9
            go_wp2_with fail
            have hfin : ∃ f', f' ≤ f ∧ RRel Rz p m wb X w r f' (.int .i64 (T9 : Int)) (.int .i64 e) w5 := by
              by_cases he0 : e = 0
              · have hnone : (readRound m c).2 = none := by rw [HB1.out, HE1.out, he0]; rfl
                obtain ⟨k1, k2⟩ := HPR.out hnone
                have hrr : runM (readRound m) f (readRound m c).1 = Rz := by rw [← HRES.out, runM_more hnone]
                rw [HB1.out] at k1 k2 hrr
                refine ⟨f, Nat.le_refl _, (((c.read m).add ((c.got m).take n)).plus n), r4, e, ?_, rfl, GY.out, HWC.out, ?_, HKIN.out, .inl ⟨he0, k1, ?_, ?_, hrr⟩⟩
                · show _ = Value.int .i64 ((c.tot + n : Nat) : Int)
                  rw [HT9.out]
                · show c.tot + n ≤ 65535
                  exact HTOK.out _ (by omega)
                · show (readM c.l c.s m).l.length ≤ 100
                  rw [HGD.out.len]; exact HL.out
                · have := HREM.out; dsimp only at k2; omega
              · refine ⟨0, Nat.zero_le _, (((c.read m).add ((c.got m).take n)).plus n), r4, e, ?_, rfl, GY.out, HWC.out, ?_, HKIN.out, .inr ⟨he0, ?_⟩⟩
                · show _ = Value.int .i64 ((c.tot + n : Nat) : Int)
                  rw [HT9.out]
                · show c.tot + n ≤ 65535
                  exact HTOK.out _ (by omega)
                · have ht : tailE e = some (if e = -1 then 0 else e) := by unfold tailE; split <;> simp_all
                  rw [← HRES.out, runM_stop (e := if e = -1 then 0 else e) (by rw [HB1.out, HE1.out]; exact ht), HB1.out]
            have HFIN := Lib.hid hfin
            clear hfin
            go_roundw
            case rel =>
              obtain ⟨f', _, h⟩ := HFIN.out
              exact ⟨f', h⟩
            case measure =>
              obtain ⟨f', hle, h⟩ := HFIN.out
              exact Nat.lt_of_le_of_lt (least_le h) (by have := HLE.out; omega)
    · have he9' : (e9 == 0) = false := by simpa using he9
      have HW := Lib.hid hW
      have HKQ := Lib.hid hkq
      have HG := Lib.hid g
      have hsn := sunkR (n := c.tot) hW (fun y hy => by
        unfold ksOf at hy
        obtain ⟨x, hx, rfl⟩ := List.mem_map.1 hy
        have := hck x (by simpa using hx)
        omega) (by omega) g.bound
      have HSN := Lib.hid hsn
      have HRZ := Lib.hid hres
      have HE9 := Lib.hid he9
      clear hW hkq g hsn hres he9 hck
      go_wp2_with fail
      refine HSN.out.mono ?_
      rintro e' w2 ⟨rfl, g2, hW2⟩
      have G2 := Lib.hid (HG.out.trans (g2.mono (fun j hj => by first | exact hj.elim | (unfold KW2 at hj; unfold KW3; omega) | (unfold KW3; omega))))
      rw [sunk_ks _ HKQ.out] at hW2
      have HW2 := Lib.hid hW2
      clear g2 hW2
      have hR9 : Res = ({ c with k := c.k.map (addK c.tot) }, if e9 = -1 then 0 else e9) := by rw [HRES0.out, HRZ.out]
      have ht : tot = c.tot := by rw [← HTOT.out, hR9]
      have hv : (if e9 = -1 then 0 else e9) = ev := by rw [← HEV.out, hR9]
      have HR9 := Lib.hid hR9
      subst ht
      clear hR9
      by_cases h1 : e9 = -1
      · have h1' : (e9 == -1) = true := by simpa using h1
        have hv0 : ev = 0 := by rw [← hv, if_pos h1]
        subst hv0
        clear h1 hv
        go_wp2
        refine bodyPost_ret (v := .tuple #[.int .i64 (c.tot : Int), .int .i64 0]) (by simp [results, Tryd.f36, go_sem]) rfl ?_
        refine ⟨rfl, rx, G2.out, ?_⟩
        rw [HR9.out]
        exact ⟨HW2.out, (addK_fst' _ _).trans HKQ.out⟩
      · have h1' : (e9 == -1) = false := by simpa using h1
        have hv0 : ev = e9 := by rw [← hv, if_neg h1]
        subst hv0
        clear h1 hv
        go_wp2
        refine bodyPost_ret (v := .tuple #[.int .i64 (c.tot : Int), .int .i64 ev]) (by simp [results, Tryd.f36, go_sem]) rfl ?_
        refine ⟨rfl, rx, G2.out, ?_⟩
        rw [HR9.out]
        exact ⟨HW2.out, (addK_fst' _ _).trans HKQ.out⟩
end Go.Proofs.YtigfgdefgnahpaaDoor
