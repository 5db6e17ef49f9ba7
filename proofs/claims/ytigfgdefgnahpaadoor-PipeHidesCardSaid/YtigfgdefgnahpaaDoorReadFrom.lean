/-
  The walk of the sink's own reading (the code's readFrom). Not a statement of the seat.
-/
import Derived.Test.YtigfgdefgnahpaaDoorBuffered
import Derived.Test.YtigfgdefgnahpaaDoorReading
namespace Go.Proofs.YtigfgdefgnahpaaDoor
open Go.RowKit

/-- what the sink's own reading may turn -/
def KR (k : Nat) : Prop := k < 30 ∨ k = 31 ∨ k = 40
def RdRel (round : Cp → Cp × Option Int) (Res : Cp × Int) (p m LL : Nat) (rv : Value) (tb : Nat) (wb : Sh) (bk : Int) (ba : Option Addr) (bc : Nat) (w0 : World) (r0 : Own) (f : Nat) (t : Value) (wx : World) : Prop :=
  ∃ c rx xs, t = .int .i64 (c.tot : Int) ∧ Step KR w0 r0 wx rx ∧ Chain wx rx wb rv c.l c.s ∧ TankAt wx rx 40 tb c.t true bk ∧ RowK wx rx 31 1 ba m bc xs ∧ CpOk p c ∧ c.l.length = LL ∧ c.s.rem p < f ∧ runM round f c = Res
def RdW (Res : Cp × Int) (rv : Value) (tb : Nat) (wb : Sh) (bk : Int) (w0 : World) (r0 : Own) (w' : World) : Prop :=
  ∃ r', Step KR w0 r0 w' r' ∧ Chain w' r' wb rv Res.1.l Res.1.s ∧ TankAt w' r' 40 tb Res.1.t true bk

set_option maxRecDepth 100000 in
set_option maxHeartbeats 4000000 in
theorem readFromN {eb : Nat} {wb : Sh} {rv : Value} {tb : Nat} {c0 : Cp} {p m : Nat} {w : World} {r : Own} {F : Nat} {Res : Cp × Int} {tot : Nat} {ev : Value}
    (hC0 : Chain w r wb rv c0.l c0.s) (hT0 : TankAt w r 40 tb c0.t true (m : Int)) (hok0 : CpOk p c0) (hl0 : c0.l.length < 20) (hm1 : 1 ≤ m) (hm2 : m ≤ 1000000) (hE0 : EOFat w r eb) (hbnd0 : Bnd w r) (ht0 : c0.tot = 0) (hF : c0.s.rem p < F)
    (hres0 : runM (readRound m) F c0 = Res) (htot : Res.1.tot = tot) (hev : errV eb Res.2 = ev) :
    Calls Tryd.prog 88 #[.agg #[.pointer (some ⟨tb, 0, none⟩)], rv] w (PostV (.tuple #[.int .i64 tot, ev]) (RdW Res rv tb wb m w r)) := by
  obtain ⟨K0, rv0, hM⟩ := chainMeth hC0
  obtain ⟨T, x, hrvE, hm, hcf⟩ := id hM
  subst hrvE
  obtain ⟨eo, heo⟩ : ∃ eo, EOFv eb = eo := ⟨_, rfl⟩
  obtain ⟨i0, hy0, hy1, hy2, hy3⟩ := u8Info
  have hmk := run_make_row' (P := Tryd.prog) 78 5 (.int .u8 0) 1 under78 (by kernel_rfl) rfl .i64 .i64 m (by omega) (by omega)
  -- the start: the receiver's box, the buffer
  obtain ⟨wq, hwq⟩ : ∃ wq, w.alloc (.cells #[.pointer (some ⟨tb, 0, none⟩)] 108) = wq := ⟨_, rfl⟩
  have hq1 : Step (fun _ => False) w r wq r := by rw [← hwq]; exact (Step.refl _ hbnd0).alloc _
  have hqs : wq.heap.size = w.heap.size + 1 := by rw [← hwq]; simp
  have hqc : wq.cell? ⟨w.heap.size, 0, none⟩ = some (.pointer (some ⟨tb, 0, none⟩)) := by rw [← hwq]; simp
  have hT1 := hT0.step hq1 id
  obtain ⟨sa0, sn0, sc0, ha0, hn0, hc0, hr0, hTB0, hz0⟩ := id hT1
  clear hr0 hz0
  have c4 := hTB0.cell 4 rfl
  have hg1 : Step KR wq r (wq.alloc (.cells (madeCells #[.int .u8 0] m) 5)) (r.give wq.heap.size 31) := ((Step.refl KR hq1.bound).alloc _).give (Nat.le_refl _) (by simp) (.inr (.inl rfl))
  have hg2 : Step (fun k => k = 31) wq r (wq.alloc (.cells (madeCells #[.int .u8 0] m) 5)) (r.give wq.heap.size 31) := ((Step.refl _ hq1.bound).alloc _).give (Nat.le_refl _) (by simp) rfl
  have hrow : RowK (wq.alloc (.cells (madeCells #[.int .u8 0] m) 5)) (r.give wq.heap.size 31) 31 1 (some ⟨wq.heap.size, 0, none⟩) m m (madeCells #[.int .u8 0] m).toList := by
    refine ⟨⟨by simp [size_madeCells], Nat.le_refl _, by unfold maxLen; omega, .inr ⟨_, _, rfl, Nat.zero_le _, by simp, fun j hj => ?_, fun j hj => ⟨?_, ?_⟩⟩⟩, fun b hb => ?_⟩
    · simp
    · rw [Nat.mul_one] at hj
      have : j < (madeCells #[Value.int .u8 0] m).size := by rw [size_madeCells]; exact hj
      simp [this]
    · exact World.frozen?_new _ _ _ _
    · cases hb; exact Own.give_same _ _ _
  have hrel0 : RdRel (readRound m) Res p m c0.l.length (.iface T x) tb wb m (some ⟨wq.heap.size, 0, none⟩) m wq r F (.int .i64 0) (wq.alloc (.cells (madeCells #[.int .u8 0] m) 5)) :=
    ⟨c0, _, _, by rw [ht0]; rfl, hg1, (hC0.step hq1 (fun _ _ h => h) id).step hg2 (fun k hk e => by omega) (by omega), hT1.step hg2 (by omega), hrow, hok0, rfl, hF, hres0⟩
  have HREL0 := Lib.hid hrel0
  have HM := Lib.hid hM
  have HE0 := Lib.hid (hE0.step hq1)
  have HEO := Lib.hid heo
  have HTOT := Lib.hid htot
  have HEV := Lib.hid hev
  have HQ1 := Lib.hid hq1
  have HQC := Lib.hid hqc
  have hbx : r w.heap.size = none := hbnd0 _ (Nat.le_refl _)
  have hbl : w.heap.size < wq.heap.size := by omega
  have HBX := Lib.hid hbx
  have HBLT := Lib.hid hbl
  clear hrel0 hrow hg1 hg2 hM hE0 hC0 hT0 hT1 hTB0 hok0 hF hres0 ht0 heo htot hev hq1 hqs hbx hbl
  generalize c0.l.length = LL at hl0 HREL0
  clear c0
  go_enter Tryd.func88, Tryd.ntmps88
  go_wp2_with fail
  clear hqc c4 hwq
  generalize (wq.alloc (.cells (madeCells #[.int .u8 0] m) 5)) = wa at HREL0 ⊢
  generalize hba : (some ⟨wq.heap.size, 0, none⟩ : Option Addr) = ba at HREL0 ⊢
  clear hba
  go_loopw [7] (fun t wr => ∃ f, RdRel (readRound m) Res p m LL (.iface T x) tb wb m ba m wq r f t wr) (fun t wr => least (fun f => RdRel (readRound m) Res p m LL (.iface T x) tb wb m ba m wq r f t wr))
  case atStart => exact ⟨F, HREL0.out⟩
  case round =>
    obtain ⟨f, hf, hle⟩ : ∃ f, RdRel (readRound m) Res p m LL (.iface T x) tb wb m ba m wq r f u7 wr ∧ f ≤ least (fun f => RdRel (readRound m) Res p m LL (.iface T x) tb wb m ba m wq r f u7 wr) := ⟨_, least_spec hrel, Nat.le_refl _⟩
    have HLE := Lib.hid hle
    clear hle hrel HREL0
    obtain ⟨c, rx, xs, rfl, g, hC, hT, hB, hok, hl, hrem, hres⟩ := hf
    obtain ⟨f, rfl⟩ : ∃ f', f = f' + 1 := ⟨f - 1, by omega⟩
    have hgood := readM_good c.l c.s m hok.s hok.l
    have hkk := hok.kk
    have htb := hok.tot
    have hgl := got_length hok m
    have hp1 := hok.s.2.2.1
    have hp2 := hok.s.2.2.2
    have hp3 := hgood.ok.2.2.1
    rw [hgood.data] at hp3
    have hp4 := hgood.bytes
    have hnm := hgood.le
    have hmb := hB.1.rd.le
    have hbm := hB.1.rd.max
    unfold maxLen at hbm
    have herr := hgood.err
    have hprog := readRound_ok hok hm1
    have hthas := hok.has
    have htok := hok.t
    have hrd := chainRead (eb := eb) c.l hC hok.s hok.l (by omega) hm2 hB (by omega) (by omega) (by omega) (HE0.out.step g) g.bound HM.out
    have hn2 := readM_good c.l c.s m hok.s hok.l
    obtain ⟨n, hn⟩ : ∃ n, (readM c.l c.s m).n = n := ⟨_, rfl⟩
    obtain ⟨e, he⟩ : ∃ e, (readM c.l c.s m).e = e := ⟨_, rfl⟩
    rw [hn] at hgl hp4 hnm
    rw [he] at herr
    rw [hn, he] at hrd
    obtain ⟨ev1, hev1⟩ : ∃ v, errV eb e = v := ⟨_, rfl⟩
    rw [hev1] at hrd
    have q1 : ∀ w, (binOp .eql 68 ev1 eo).run Tryd.prog w = .ok (.bool (e == -1)) w := fun w => by rw [← hev1, ← HEO.out]; exact eqE eb herr w
    have q2 : ∀ w, (binOp .neq 68 ev1 .nilIface).run Tryd.prog w = .ok (.bool (!(e == 0))) w := fun w => by rw [← hev1]; exact neN eb herr w
    have gq1 : ∀ a b w, (eqGuard .eql 68 a b ev1 eo).run Tryd.prog w = .ok () w := fun a b w => by rw [← hev1, ← HEO.out]; exact gdE eb herr a b w
    have gq2 : ∀ a w, (eqGuard .neq 68 a (.const .nilIface) ev1 .nilIface).run Tryd.prog w = .ok () w := fun a w => by rw [← hev1]; exact gdN eb herr a w
    have Q1 := Lib.hid q1
    have Q2 := Lib.hid q2
    have HRD := Lib.hid hrd
    have HN1 := Lib.hid hn
    have HE1 := Lib.hid he
    have HV1 := Lib.hid hev1
    have HG := Lib.hid g
    have HT := Lib.hid hT
    have HRES := Lib.hid hres
    have HPR := Lib.hid hprog
    have HGL := Lib.hid hgl
    have HGD := Lib.hid hn2
    have HTOK := Lib.hid htok
    have HREM := Lib.hid hrem
    have HL := Lib.hid hl
    have htb2 : c.tot ≤ 65535 := by omega
    have hn65 : n ≤ 65535 := by omega
    have hth2 : c.t.has.length ≤ 65535 := by omega
    have hr1 := htok.2.2.1
    have hr2 := htok.2.2.2.1
    have hr3 := htok.2.2.2.2
    have HR3 := Lib.hid hr3
    have HTH := Lib.hid hth2
    clear q1 q2 hrd hn he hev1 g hT hres hok hprog hgl hgood hn2 htok herr hrem hl hp1 hp2 hp3 hp4 hkk htb hthas hr3 hth2 hC
    go_wp2_with fail
    refine HRD.out.mono ?_
    rintro e' w2 ⟨rfl, hG⟩
    obtain ⟨r2, g2, hC2, ⟨ys, hB2, hys⟩, _⟩ := hG
    have g3 : Step KR wq r w2 r2 := HG.out.trans (g2.mono (fun k hk => by have := HL.out; unfold KR; omega))
    have hxn : r2 w.heap.size = none := by rw [g3.old _ HBLT.out]; exact HBX.out
    have HXN := Lib.hid hxn
    clear hxn
    have cX : w2.cell? ⟨w.heap.size, 0, none⟩ = some (.pointer (some ⟨tb, 0, none⟩)) := by
      rw [World.cell?_of_block (a := ⟨w.heap.size, 0, none⟩) (g3.keep _ HBLT.out (fun k hk => by rw [HBX.out] at hk; cases hk))]; exact HQC.out
    have hT2 := HT.out.step g2 (fun h => by have := HL.out; omega)
    obtain ⟨sa, sn, sc, ha, hn, hc, hb, hTB, hSZ, hHS, hne⟩ := id hT2
    have c1 := hTB.cell 1 rfl
    have c5 := hTB.cell 5 rfl
    have f5 := hTB.free 5 (by simp)
    have hhn : c.t.has.length = hn := by have := hHS.1.rd.len; rw [B8_length] at this; omega
    have hhn2 : hn ≤ 65535 := by have := HTH.out; omega
    have G3 := Lib.hid g3
    have HC2 := Lib.hid hC2
    have HB2 := Lib.hid hB2
    have HYS := Lib.hid hys
    have HHN := Lib.hid hhn
    have HTB := Lib.hid hTB
    have HSZ := Lib.hid hSZ
    have HHS := Lib.hid hHS
    have HNE := Lib.hid hne
    clear HRD HG HT g2 g3 hC2 hB2 hys hT2 hB hTB hSZ hHS hne hhn

    by_cases hfull : 0 ≤ c.t.room ∧ c.t.room - hn < n
    · obtain ⟨q, hq⟩ : ∃ q : Nat, (q : Int) = c.t.room - hn := ⟨(c.t.room - hn).toNat, by have := HR3.out hfull.1; have := HHN.out; omega⟩
      have hti : c.t.tight n = true := by unfold Tank.tight; rw [HHN.out]; simpa using hfull
      have hft : c.t.fits n = q := by unfold Tank.fits; rw [if_pos hti, HHN.out]; omega
      have HB1 := Lib.hid (show readRound m c = (((c.read m).add ((c.got m).take q)).plus q, some 362) by unfold readRound; dsimp only; rw [HN1.out, hft, if_pos hti])
      have hqn : q ≤ n := by omega
      have hqm : q ≤ m := by omega
      have hrp : decide (c.t.room ≥ 0) = true := by simpa using hfull.1
      have hlt1 : decide (q < n) = true := by simp; omega
      have hlt2 : decide ((q : Int) < n) = true := by simp; omega
      have HQQ := Lib.hid hq
      clear hq hfull hti hft
      go_wp2_with fail
      refine (roomN c1 c5 hr1 hr2 (by omega)).mono ?_
      rw [← HQQ.out]
      rintro e3 w2' ⟨rfl, mq, rfl⟩
      have hd0 : Step (fun _ => False) w2 r2 (w2.drewN mq) r2 := (Step.refl _ G3.out.bound).calm (below_drewN _ _ _)
      have c1' : (w2.drewN mq).cell? ⟨tb, 1, none⟩ = some (.int .i64 c.t.room) := c1
      have c5' : (w2.drewN mq).cell? ⟨tb, 5, none⟩ = some (.slice ha hn hc) := c5
      have f5' : (w2.drewN mq).frozen? ⟨tb, 5, none⟩ = false := f5
      have cX' : (w2.drewN mq).cell? ⟨w.heap.size, 0, none⟩ = some (.pointer (some ⟨tb, 0, none⟩)) := cX
      have G3' := Lib.hid (G3.out.trans (hd0.mono (fun _ h => h.elim)))
      have HC2' := Lib.hid (HC2.out.step hd0 (fun _ _ h => h) id)
      have HB2' := Lib.hid (HB2.out.step hd0 id)
      have HTB' := Lib.hid (HTB.out.step hd0 hb id)
      have HSZ' := Lib.hid (HSZ.out.step hd0 (fun _ _ h => h))
      have HHS' := Lib.hid (HHS.out.step hd0 id)
      clear hd0 c1 c5 f5 cX G3 HC2 HB2 HTB HSZ HHS
      generalize w2.drewN mq = w2n at *
      rename World => w2
      have c1 := c1'
      clear c1'
      have c5 := c5'
      clear c5'
      have f5 := f5'
      clear f5'
      have cX := cX'
      clear cX'
      have G3 := G3'
      clear G3'
      have HC2 := HC2'
      clear HC2'
      have HB2 := HB2'
      clear HB2'
      have HTB := HTB'
      clear HTB'
      have HSZ := HSZ'
      clear HSZ'
      have HHS := HHS'
      clear HHS'
      go_wp2_with fail
      refine (roomN c1 c5 hr1 hr2 (by omega)).mono ?_
      rw [← HQQ.out]
      rintro e3 w2' ⟨rfl, mq, rfl⟩
      have hd0 : Step (fun _ => False) w2 r2 (w2.drewN mq) r2 := (Step.refl _ G3.out.bound).calm (below_drewN _ _ _)
      have c1' : (w2.drewN mq).cell? ⟨tb, 1, none⟩ = some (.int .i64 c.t.room) := c1
      have c5' : (w2.drewN mq).cell? ⟨tb, 5, none⟩ = some (.slice ha hn hc) := c5
      have f5' : (w2.drewN mq).frozen? ⟨tb, 5, none⟩ = false := f5
      have cX' : (w2.drewN mq).cell? ⟨w.heap.size, 0, none⟩ = some (.pointer (some ⟨tb, 0, none⟩)) := cX
      have G3' := Lib.hid (G3.out.trans (hd0.mono (fun _ h => h.elim)))
      have HC2' := Lib.hid (HC2.out.step hd0 (fun _ _ h => h) id)
      have HB2' := Lib.hid (HB2.out.step hd0 id)
      have HTB' := Lib.hid (HTB.out.step hd0 hb id)
      have HSZ' := Lib.hid (HSZ.out.step hd0 (fun _ _ h => h))
      have HHS' := Lib.hid (HHS.out.step hd0 id)
      clear hd0 c1 c5 f5 cX G3 HC2 HB2 HTB HSZ HHS
      generalize w2.drewN mq = w2n at *
      rename World => w2
      have c1 := c1'
      clear c1'
      have c5 := c5'
      clear c5'
      have f5 := f5'
      clear f5'
      have cX := cX'
      clear cX'
      have G3 := G3'
      clear G3'
      have HC2 := HC2'
      clear HC2'
      have HB2 := HB2'
      clear HB2'
      have HTB := HTB'
      clear HTB'
      have HSZ := HSZ'
      clear HSZ'
      have HHS := HHS'
      clear HHS'
      go_wp2_with fail
      have dD : Step (fun _ => False) w2 r2 w2.drew r2 := (Step.refl _ G3.out.bound).drew
      have HRB := Lib.hid ((HB2.out.step dD id).1.rd)
      clear dD
      go_region_law (first | (refine step_append_row rfl _ _ 78 78 rfl 5 i0 (.int .u8 0) 1 1 under78 hy0 hy1 hy2 hy3 rfl rfl HHS.out.1.drew q (B8 ((c.got m).take q)) (Src.ofRd under78 (by have e1 : B8 ((c.got m).take q) = (ys.take n).take q := (by rw [B8_take]; unfold Cp.got; rw [← HYS.out, HN1.out]); rw [e1, List.take_take, Nat.min_eq_left (by omega)]; simpa using HRB.out.take (k := q) (by omega) (by omega) (Nat.le_refl _)) (B8_one _)) (by unfold maxLen; omega) (by omega) (Nat.zero_le _) ?_; intro a' c' w4 hrow hgr hbk; have HR2 := Lib.hid hrow; have HG2 := Lib.hid hgr; have HK2 := Lib.hid hbk; clear hrow hgr hbk; have BB2 := Lib.hid (HTB.out.drew.grown HG2.out (fun e => HNE.out _ e rfl)); have cX4 := cellGr HG2.out (b := w.heap.size) (o := 0) cX (fun e => by have := HHS.out.2 _ e.symm; rw [HXN.out] at this; cases this); have c5'' := BB2.out.cell 5 rfl; have f5'' := BB2.out.free 5 (by simp)))
      all_goals
        have hcl := tank_close (bs := (c.got m)) (k' := c.t.k) ((Step.refl (· = 40) G3.out.bound).drew) hb HTB.out.lt HTB.out.drew HSZ.out HHS.out HNE.out HR2.out HG2.out HK2.out
        obtain ⟨r3, g4, hT3⟩ := hcl
        have g6 : Step KR wq r _ r3 := G3.out.trans (g4.mono (fun k hk => by subst hk; exact .inr (.inr rfl)))
        have hC3 := HC2.out.step g4 (fun k hk h => by have := HL.out; have := HGD.out.len; omega) (by omega)
        have hB3 := HB2.out.step g4 (by omega)
        have cE3 := (HE0.out.step g6).2.2
        rw [HEO.out] at cE3
        have cX3 := cX
        have G6 := Lib.hid g6
        have HC3 := Lib.hid hC3
        have HB3 := Lib.hid hB3
        have hT3' : TankAt (w4.setCell ⟨tb, 5, none⟩ (.slice a' (hn + q) c')) r3 40 tb (c.t.add ((c.got m).take q)) true m := hT3
        have HT3 := Lib.hid hT3'
        clear g4 hT3 hT3' g6 hC3 hB3 cX3 cX4 c1 c5 f5 cX c5'' f5'' BB2 HR2 HG2 HK2 HTB HSZ HHS HNE HB2 HC2 G3 HYS HRB
        generalize w4.setCell ⟨tb, 5, none⟩ (.slice a' (hn + q) c') = w5 at *

        have hR : Res = (((c.read m).add ((c.got m).take q)).plus q, 362) := by rw [← HRES.out, runM_stop (e := 362) (by rw [HB1.out]), HB1.out]
        have ht : tot = c.tot + q := by rw [← HTOT.out, hR]; rfl
        have hv : ev = .iface 33 (.int .i64 362) := by rw [← HEV.out, hR]; rfl
        have HR := Lib.hid hR
        subst ht
        subst hv
        clear hR
        go_wp2
        refine bodyPost_ret (v := .tuple #[.int .i64 ((c.tot : Int) + q), .iface 33 (.int .i64 362)]) (by simp [results, Tryd.f88, go_sem]) rfl ?_
        exact ⟨by first | rfl | (congr 3; exact (Int.natCast_add _ _).symm), r3, (HQ1.out.mono (fun _ h => h.elim)).trans G6.out, by rw [HR.out]; exact HC3.out, by rw [HR.out]; exact HT3.out⟩

    · have hti : ¬ c.t.tight n = true := by unfold Tank.tight; rw [HHN.out]; simpa using hfull
      have hft : c.t.fits n = n := by unfold Tank.fits; rw [if_neg hti]
      have HB1 := Lib.hid (show readRound m c = (((c.read m).add ((c.got m).take n)).plus n, tailE (readM c.l c.s m).e) by unfold readRound; dsimp only; rw [HN1.out, hft, if_neg hti])
      clear hti hft
      by_cases hr0 : 0 ≤ c.t.room
      · obtain ⟨q, hq⟩ : ∃ q : Nat, (q : Int) = c.t.room - hn := ⟨(c.t.room - hn).toNat, by have := HR3.out hr0; have := HHN.out; omega⟩
        have hrp : decide (c.t.room ≥ 0) = true := by simpa using hr0
        have hlt1 : decide (q < n) = false := by simp; omega
        have hlt2 : decide ((q : Int) < n) = false := by simp; omega
        have HQQ := Lib.hid hq
        clear hq hfull hr0
        go_wp2_with fail
        refine (roomN c1 c5 hr1 hr2 (by omega)).mono ?_
        rw [← HQQ.out]
        rintro e3 w2' ⟨rfl, mq, rfl⟩
        have hd0 : Step (fun _ => False) w2 r2 (w2.drewN mq) r2 := (Step.refl _ G3.out.bound).calm (below_drewN _ _ _)
        have c1' : (w2.drewN mq).cell? ⟨tb, 1, none⟩ = some (.int .i64 c.t.room) := c1
        have c5' : (w2.drewN mq).cell? ⟨tb, 5, none⟩ = some (.slice ha hn hc) := c5
        have f5' : (w2.drewN mq).frozen? ⟨tb, 5, none⟩ = false := f5
        have cX' : (w2.drewN mq).cell? ⟨w.heap.size, 0, none⟩ = some (.pointer (some ⟨tb, 0, none⟩)) := cX
        have G3' := Lib.hid (G3.out.trans (hd0.mono (fun _ h => h.elim)))
        have HC2' := Lib.hid (HC2.out.step hd0 (fun _ _ h => h) id)
        have HB2' := Lib.hid (HB2.out.step hd0 id)
        have HTB' := Lib.hid (HTB.out.step hd0 hb id)
        have HSZ' := Lib.hid (HSZ.out.step hd0 (fun _ _ h => h))
        have HHS' := Lib.hid (HHS.out.step hd0 id)
        clear hd0 c1 c5 f5 cX G3 HC2 HB2 HTB HSZ HHS
        generalize w2.drewN mq = w2n at *
        rename World => w2
        have c1 := c1'
        clear c1'
        have c5 := c5'
        clear c5'
        have f5 := f5'
        clear f5'
        have cX := cX'
        clear cX'
        have G3 := G3'
        clear G3'
        have HC2 := HC2'
        clear HC2'
        have HB2 := HB2'
        clear HB2'
        have HTB := HTB'
        clear HTB'
        have HSZ := HSZ'
        clear HSZ'
        have HHS := HHS'
        clear HHS'
        go_wp2_with fail
        have dD : Step (fun _ => False) w2 r2 w2.drew r2 := (Step.refl _ G3.out.bound).drew
        have HRB := Lib.hid ((HB2.out.step dD id).1.rd)
        clear dD
        go_region_law (first | (refine step_append_row rfl _ _ 78 78 rfl 5 i0 (.int .u8 0) 1 1 under78 hy0 hy1 hy2 hy3 rfl rfl HHS.out.1.drew n (B8 ((c.got m).take n)) (Src.ofRd under78 (by have e1 : B8 ((c.got m).take n) = (ys.take n).take n := (by rw [B8_take]; unfold Cp.got; rw [← HYS.out, HN1.out]); rw [e1, List.take_take, Nat.min_eq_left (by omega)]; simpa using HRB.out.take (k := n) (by omega) (by omega) (Nat.le_refl _)) (B8_one _)) (by unfold maxLen; omega) (by omega) (Nat.zero_le _) ?_; intro a' c' w4 hrow hgr hbk; have HR2 := Lib.hid hrow; have HG2 := Lib.hid hgr; have HK2 := Lib.hid hbk; clear hrow hgr hbk; have BB2 := Lib.hid (HTB.out.drew.grown HG2.out (fun e => HNE.out _ e rfl)); have cX4 := cellGr HG2.out (b := w.heap.size) (o := 0) cX (fun e => by have := HHS.out.2 _ e.symm; rw [HXN.out] at this; cases this); have c5'' := BB2.out.cell 5 rfl; have f5'' := BB2.out.free 5 (by simp)))
        all_goals
          have hcl := tank_close (bs := (c.got m)) (k' := c.t.k) ((Step.refl (· = 40) G3.out.bound).drew) hb HTB.out.lt HTB.out.drew HSZ.out HHS.out HNE.out HR2.out HG2.out HK2.out
          obtain ⟨r3, g4, hT3⟩ := hcl
          have g6 : Step KR wq r _ r3 := G3.out.trans (g4.mono (fun k hk => by subst hk; exact .inr (.inr rfl)))
          have hC3 := HC2.out.step g4 (fun k hk h => by have := HL.out; have := HGD.out.len; omega) (by omega)
          have hB3 := HB2.out.step g4 (by omega)
          have cE3 := (HE0.out.step g6).2.2
          rw [HEO.out] at cE3
          have cX3 := cX
          have G6 := Lib.hid g6
          have HC3 := Lib.hid hC3
          have HB3 := Lib.hid hB3
          have hT3' : TankAt (w4.setCell ⟨tb, 5, none⟩ (.slice a' (hn + n) c')) r3 40 tb (c.t.add ((c.got m).take n)) true m := hT3
          have HT3 := Lib.hid hT3'
          clear g4 hT3 hT3' g6 hC3 hB3 cX3 cX4 c1 c5 f5 cX c5'' f5'' BB2 HR2 HG2 HK2 HTB HSZ HHS HNE HB2 HC2 G3 HYS HRB
          generalize w4.setCell ⟨tb, 5, none⟩ (.slice a' (hn + n) c') = w5 at *

          by_cases he1 : e = -1
          · have q1' : ∀ w, (binOp .eql 68 ev1 eo).run Tryd.prog w = .ok (.bool true) w := fun w => by rw [Q1.out, he1]; rfl
            have HTL : RowKit.Hid (tailE (readM c.l c.s m).e = some 0) := by rw [HE1.out, he1]; exact rfl
            clear he1
            have hR : Res = (((c.read m).add ((c.got m).take n)).plus n, 0) := by rw [← HRES.out, runM_stop (e := 0) (by rw [HB1.out]; exact HTL.out), HB1.out]
            have ht : tot = c.tot + n := by rw [← HTOT.out, hR]; rfl
            have hv : ev = .nilIface := by rw [← HEV.out, hR]; rfl
            have HR := Lib.hid hR
            subst ht
            subst hv
            clear hR
            go_wp2
            refine bodyPost_ret (v := .tuple #[.int .i64 ((c.tot : Int) + n), .nilIface]) (by simp [results, Tryd.f88, go_sem]) rfl ?_
            exact ⟨by first | rfl | (congr 3; exact (Int.natCast_add _ _).symm), r3, (HQ1.out.mono (fun _ h => h.elim)).trans G6.out, by rw [HR.out]; exact HC3.out, by rw [HR.out]; exact HT3.out⟩

          · have q1' : ∀ w, (binOp .eql 68 ev1 eo).run Tryd.prog w = .ok (.bool false) w := fun w => by rw [Q1.out]; simp [he1]
            by_cases he0 : e = 0
            · have q2' : ∀ w, (binOp .neq 68 ev1 .nilIface).run Tryd.prog w = .ok (.bool false) w := fun w => by rw [Q2.out, he0]; rfl
              have hnone : (readRound m c).2 = none := by rw [HB1.out]; show tailE (readM c.l c.s m).e = none; rw [HE1.out, he0]; rfl
              obtain ⟨k1, k2⟩ := HPR.out hnone
              have hrr : runM (readRound m) f (readRound m c).1 = Res := by rw [← HRES.out, runM_more hnone]
              rw [HB1.out] at k1 k2 hrr
              have hfin : RdRel (readRound m) Res p m LL (.iface T x) tb wb m ba m wq r f (.int .i64 ((c.tot : Int) + n)) w5 :=
                ⟨((c.read m).add ((c.got m).take n)).plus n, r3, _, by first | rfl | exact congrArg (Value.int IntKind.i64) (Int.natCast_add _ _).symm, G6.out, HC3.out, HT3.out, HB3.out, k1, HGD.out.len.trans HL.out, by have := HREM.out; dsimp only at k2; omega, hrr⟩
              have HFIN := Lib.hid hfin
              clear hnone k1 k2 hrr hfin he0 he1
              go_wp2
              go_roundw
              case rel => exact ⟨f, HFIN.out⟩
              case measure => exact Nat.lt_of_le_of_lt (least_le HFIN.out) (by have := HLE.out; omega)
            · have q2' : ∀ w, (binOp .neq 68 ev1 .nilIface).run Tryd.prog w = .ok (.bool true) w := fun w => by rw [Q2.out]; simp [he0]
              have HTL : RowKit.Hid (tailE (readM c.l c.s m).e = some e) := by rw [HE1.out]; show tailE e = some e; unfold tailE; rw [if_neg he1, if_neg he0]
              clear he0 he1
              have hR : Res = (((c.read m).add ((c.got m).take n)).plus n, e) := by rw [← HRES.out, runM_stop (e := e) (by rw [HB1.out]; exact HTL.out), HB1.out]
              have ht : tot = c.tot + n := by rw [← HTOT.out, hR]; rfl
              have hv : ev = ev1 := by rw [← HEV.out, hR]; exact HV1.out
              have HR := Lib.hid hR
              subst ht
              subst hv
              clear hR
              go_wp2
              refine bodyPost_ret (v := .tuple #[.int .i64 ((c.tot : Int) + n), ev]) (by simp [results, Tryd.f88, go_sem]) rfl ?_
              exact ⟨by first | rfl | (congr 3; exact (Int.natCast_add _ _).symm), r3, (HQ1.out.mono (fun _ h => h.elim)).trans G6.out, by rw [HR.out]; exact HC3.out, by rw [HR.out]; exact HT3.out⟩

      · have hr0' : decide (c.t.room ≥ 0) = false := by simpa using hr0
        clear hfull hr0
        go_wp2_with fail
        have dD : Step (fun _ => False) w2 r2 w2.drew r2 := (Step.refl _ G3.out.bound).drew
        have HRB := Lib.hid ((HB2.out.step dD id).1.rd)
        clear dD
        go_region_law (first | (refine step_append_row rfl _ _ 78 78 rfl 5 i0 (.int .u8 0) 1 1 under78 hy0 hy1 hy2 hy3 rfl rfl HHS.out.1.drew n (B8 ((c.got m).take n)) (Src.ofRd under78 (by have e1 : B8 ((c.got m).take n) = (ys.take n).take n := (by rw [B8_take]; unfold Cp.got; rw [← HYS.out, HN1.out]); rw [e1, List.take_take, Nat.min_eq_left (by omega)]; simpa using HRB.out.take (k := n) (by omega) (by omega) (Nat.le_refl _)) (B8_one _)) (by unfold maxLen; omega) (by omega) (Nat.zero_le _) ?_; intro a' c' w4 hrow hgr hbk; have HR2 := Lib.hid hrow; have HG2 := Lib.hid hgr; have HK2 := Lib.hid hbk; clear hrow hgr hbk; have BB2 := Lib.hid (HTB.out.drew.grown HG2.out (fun e => HNE.out _ e rfl)); have cX4 := cellGr HG2.out (b := w.heap.size) (o := 0) cX (fun e => by have := HHS.out.2 _ e.symm; rw [HXN.out] at this; cases this); have c5'' := BB2.out.cell 5 rfl; have f5'' := BB2.out.free 5 (by simp)))
        all_goals
          have hcl := tank_close (bs := (c.got m)) (k' := c.t.k) ((Step.refl (· = 40) G3.out.bound).drew) hb HTB.out.lt HTB.out.drew HSZ.out HHS.out HNE.out HR2.out HG2.out HK2.out
          obtain ⟨r3, g4, hT3⟩ := hcl
          have g6 : Step KR wq r _ r3 := G3.out.trans (g4.mono (fun k hk => by subst hk; exact .inr (.inr rfl)))
          have hC3 := HC2.out.step g4 (fun k hk h => by have := HL.out; have := HGD.out.len; omega) (by omega)
          have hB3 := HB2.out.step g4 (by omega)
          have cE3 := (HE0.out.step g6).2.2
          rw [HEO.out] at cE3
          have cX3 := cX
          have G6 := Lib.hid g6
          have HC3 := Lib.hid hC3
          have HB3 := Lib.hid hB3
          have hT3' : TankAt (w4.setCell ⟨tb, 5, none⟩ (.slice a' (hn + n) c')) r3 40 tb (c.t.add ((c.got m).take n)) true m := hT3
          have HT3 := Lib.hid hT3'
          clear g4 hT3 hT3' g6 hC3 hB3 cX3 cX4 c1 c5 f5 cX c5'' f5'' BB2 HR2 HG2 HK2 HTB HSZ HHS HNE HB2 HC2 G3 HYS HRB
          generalize w4.setCell ⟨tb, 5, none⟩ (.slice a' (hn + n) c') = w5 at *

          by_cases he1 : e = -1
          · have q1' : ∀ w, (binOp .eql 68 ev1 eo).run Tryd.prog w = .ok (.bool true) w := fun w => by rw [Q1.out, he1]; rfl
            have HTL : RowKit.Hid (tailE (readM c.l c.s m).e = some 0) := by rw [HE1.out, he1]; exact rfl
            clear he1
            have hR : Res = (((c.read m).add ((c.got m).take n)).plus n, 0) := by rw [← HRES.out, runM_stop (e := 0) (by rw [HB1.out]; exact HTL.out), HB1.out]
            have ht : tot = c.tot + n := by rw [← HTOT.out, hR]; rfl
            have hv : ev = .nilIface := by rw [← HEV.out, hR]; rfl
            have HR := Lib.hid hR
            subst ht
            subst hv
            clear hR
            go_wp2
            refine bodyPost_ret (v := .tuple #[.int .i64 ((c.tot : Int) + n), .nilIface]) (by simp [results, Tryd.f88, go_sem]) rfl ?_
            exact ⟨by first | rfl | (congr 3; exact (Int.natCast_add _ _).symm), r3, (HQ1.out.mono (fun _ h => h.elim)).trans G6.out, by rw [HR.out]; exact HC3.out, by rw [HR.out]; exact HT3.out⟩

          · have q1' : ∀ w, (binOp .eql 68 ev1 eo).run Tryd.prog w = .ok (.bool false) w := fun w => by rw [Q1.out]; simp [he1]
            by_cases he0 : e = 0
            · have q2' : ∀ w, (binOp .neq 68 ev1 .nilIface).run Tryd.prog w = .ok (.bool false) w := fun w => by rw [Q2.out, he0]; rfl
              have hnone : (readRound m c).2 = none := by rw [HB1.out]; show tailE (readM c.l c.s m).e = none; rw [HE1.out, he0]; rfl
              obtain ⟨k1, k2⟩ := HPR.out hnone
              have hrr : runM (readRound m) f (readRound m c).1 = Res := by rw [← HRES.out, runM_more hnone]
              rw [HB1.out] at k1 k2 hrr
              have hfin : RdRel (readRound m) Res p m LL (.iface T x) tb wb m ba m wq r f (.int .i64 ((c.tot : Int) + n)) w5 :=
                ⟨((c.read m).add ((c.got m).take n)).plus n, r3, _, by first | rfl | exact congrArg (Value.int IntKind.i64) (Int.natCast_add _ _).symm, G6.out, HC3.out, HT3.out, HB3.out, k1, HGD.out.len.trans HL.out, by have := HREM.out; dsimp only at k2; omega, hrr⟩
              have HFIN := Lib.hid hfin
              clear hnone k1 k2 hrr hfin he0 he1
              go_wp2
              go_roundw
              case rel => exact ⟨f, HFIN.out⟩
              case measure => exact Nat.lt_of_le_of_lt (least_le HFIN.out) (by have := HLE.out; omega)
            · have q2' : ∀ w, (binOp .neq 68 ev1 .nilIface).run Tryd.prog w = .ok (.bool true) w := fun w => by rw [Q2.out]; simp [he0]
              have HTL : RowKit.Hid (tailE (readM c.l c.s m).e = some e) := by rw [HE1.out]; show tailE e = some e; unfold tailE; rw [if_neg he1, if_neg he0]
              clear he0 he1
              have hR : Res = (((c.read m).add ((c.got m).take n)).plus n, e) := by rw [← HRES.out, runM_stop (e := e) (by rw [HB1.out]; exact HTL.out), HB1.out]
              have ht : tot = c.tot + n := by rw [← HTOT.out, hR]; rfl
              have hv : ev = ev1 := by rw [← HEV.out, hR]; exact HV1.out
              have HR := Lib.hid hR
              subst ht
              subst hv
              clear hR
              go_wp2
              refine bodyPost_ret (v := .tuple #[.int .i64 ((c.tot : Int) + n), ev]) (by simp [results, Tryd.f88, go_sem]) rfl ?_
              exact ⟨by first | rfl | (congr 3; exact (Int.natCast_add _ _).symm), r3, (HQ1.out.mono (fun _ h => h.elim)).trans G6.out, by rw [HR.out]; exact HC3.out, by rw [HR.out]; exact HT3.out⟩

end Go.Proofs.YtigfgdefgnahpaaDoor
