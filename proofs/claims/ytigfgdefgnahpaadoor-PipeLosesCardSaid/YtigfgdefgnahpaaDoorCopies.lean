/-
  The walk of PipeCopies. Not a statement of the seat.
-/
import Derived.Test.YtigfgdefgnahpaaDoorKitM
import Derived.Deep.RegionHeld3
namespace Go.Proofs.YtigfgdefgnahpaaDoor
open Go.RowKit

/-- the arguments boxed: their cells, in every world that has grown from here -/
def Boxed (sb db : Nat) (A : Sa) (w : World) : Prop :=
  (w.cell? ⟨sb, 0, none⟩ = some (.string A.dat) ∧ w.cell? ⟨sb, 1, none⟩ = some (.slice A.sa A.sn A.sc) ∧ w.cell? ⟨sb, 2, none⟩ = some (.bool A.early) ∧ w.cell? ⟨sb, 3, none⟩ = some (.bool A.broken) ∧ w.cell? ⟨sb, 4, none⟩ = some (.bool A.wr) ∧ w.cell? ⟨sb, 5, none⟩ = some (.slice A.pa A.pn A.pc)) ∧
  (w.cell? ⟨db, 0, none⟩ = some (.slice A.ta A.tn A.tc) ∧ w.cell? ⟨db, 1, none⟩ = some (.int .i64 A.room) ∧ w.cell? ⟨db, 2, none⟩ = some (.bool A.over) ∧ w.cell? ⟨db, 3, none⟩ = some (.bool A.rd) ∧ w.cell? ⟨db, 4, none⟩ = some (.int .i64 A.bk) ∧ w.cell? ⟨db, 5, none⟩ = some (.slice A.qa A.qn A.qc))
theorem Boxed.below {sb db : Nat} {A : Sa} {w w' : World} (h : Boxed sb db A w) (hb : Below w.heap.size w w') : Boxed sb db A w' := by
  obtain ⟨⟨a0, a1, a2, a3, a4, a5⟩, ⟨b0, b1, b2, b3, b4, b5⟩⟩ := h
  exact ⟨⟨cellAt hb a0, cellAt hb a1, cellAt hb a2, cellAt hb a3, cellAt hb a4, cellAt hb a5⟩, ⟨cellAt hb b0, cellAt hb b1, cellAt hb b2, cellAt hb b3, cellAt hb b4, cellAt hb b5⟩⟩

set_option maxRecDepth 100000 in
set_option maxHeartbeats 8000000 in
theorem copiesT {A : Sa} {zs tzs : List Int} {ps qs : List Pp} {eb : Nat} {n : Int} {w : World} (hA : ArgsAt w A zs tzs ps qs) (hL : Laid eb w) (hn : ∀ x ∈ ps, -9223372036854775808 ≤ x.n ∧ x.n ≤ 9223372036854775807) (hl : ∀ x ∈ ps, x.zs.length = x.sn) :
    Calls Tryd.prog 3 #[.agg #[.string A.dat, .slice A.sa A.sn A.sc, .bool A.early, .bool A.broken, .bool A.wr, .slice A.pa A.pn A.pc], .agg #[.slice A.ta A.tn A.tc, .int .i64 A.room, .bool A.over, .bool A.rd, .int .i64 A.bk, .slice A.qa A.qn A.qc], .int .i64 n] w (RV w (.bool true)) := by
  obtain ⟨wq, hwq⟩ : ∃ wq, (w.alloc (.cells #[.string A.dat, .slice A.sa A.sn A.sc, .bool A.early, .bool A.broken, .bool A.wr, .slice A.pa A.pn A.pc] 25)).alloc (.cells #[.slice A.ta A.tn A.tc, .int .i64 A.room, .bool A.over, .bool A.rd, .int .i64 A.bk, .slice A.qa A.qn A.qc] 29) = wq := ⟨_, rfl⟩
  have hbw : Below w.heap.size w wq := by rw [← hwq]; exact ((Below.refl _ w).alloc (Nat.le_refl _) _).alloc (by rw [sz_alloc]; omega) _
  have hb1 : Blk wq w.heap.size A.src := by rw [← hwq]; exact (Blk.new w #[.string A.dat, .slice A.sa A.sn A.sc, .bool A.early, .bool A.broken, .bool A.wr, .slice A.pa A.pn A.pc] 25).alloc _
  have hb2 : Blk wq (w.heap.size + 1) A.dst := by
    rw [← hwq]
    have := Blk.new (w.alloc (.cells #[.string A.dat, .slice A.sa A.sn A.sc, .bool A.early, .bool A.broken, .bool A.wr, .slice A.pa A.pn A.pc] 25)) #[.slice A.ta A.tn A.tc, .int .i64 A.room, .bool A.over, .bool A.rd, .int .i64 A.bk, .slice A.qa A.qn A.qc] 29
    rw [sz_alloc] at this
    exact this
  have hbox : Boxed w.heap.size (w.heap.size + 1) A wq := ⟨⟨hb1.cell 0 rfl, hb1.cell 1 rfl, hb1.cell 2 rfl, hb1.cell 3 rfl, hb1.cell 4 rfl, hb1.cell 5 rfl⟩, ⟨hb2.cell 0 rfl, hb2.cell 1 rfl, hb2.cell 2 rfl, hb2.cell 3 rfl, hb2.cell 4 rfl, hb2.cell 5 rfl⟩⟩
  have HA := Lib.hid (hA.below hbw)
  have HLQ := Lib.hid (hL.below hbw)
  have HBW := Lib.hid hbw
  have HBOX := Lib.hid hbox
  have HNN := Lib.hid (And.intro hn hl)
  obtain ⟨⟨c0, c1, c2, c3, c4, c5⟩, ⟨d0, d1, d2, d3, d4, d5⟩⟩ := hbox
  clear hA hbw hb1 hb2 hL hn hl
  cases hf : fitB A zs tzs ps qs
  · have HF := Lib.hid hf
    clear hf
    go_enter Tryd.func3, Tryd.ntmps3
    go_wp2_with fail
    refine (fitT HA.out HF.out).mono ?_
    rintro e w1 ⟨rfl, hb⟩
    have HB := Lib.hid (HBW.out.trans (hb.mono HBW.out.size))
    have HL1 := Lib.hid (HLQ.out.below hb)
    clear hb
    go_wp2_with fail
    refine (awakeT HL1.out).mono ?_
    rintro e w2 ⟨rfl, hb⟩
    have HB2 := Lib.hid (HB.out.trans (hb.mono HB.out.size))
    clear hb
    go_wp2
    go_ret
    exact ⟨rfl, HB2.out⟩
  · have HF := Lib.hid hf
    have hf2 : srcFit A.dat.size zs ps = true ∧ sinkFit tzs A.room A.rd A.bk qs = true := by unfold fitB at hf; simpa using hf
    have hfa : FitA A.dat.size zs ps := ⟨hf2.1, HNN.out.1, HNN.out.2⟩
    have hsz := sizeM_le n
    obtain ⟨m, hm⟩ : ∃ m, sizeM n = m := ⟨_, rfl⟩
    rw [hm] at hsz
    have hsT : ∀ wx : World, Calls Tryd.prog 15 #[.int .i64 n] wx (fun e w' => e = .returned (.int .i64 (m : Nat)) ∧ w' = wx) := fun wx => by rw [← hm]; exact sizeT n wx
    obtain ⟨R, hR⟩ : ∃ R, resOf A zs tzs ps qs m = R := ⟨_, rfl⟩
    clear hf
    go_enter Tryd.func3, Tryd.ntmps3
    go_wp2_with fail
    refine (fitT HA.out HF.out).mono ?_
    rintro e w1 ⟨rfl, hb⟩
    have HB := Lib.hid (HBW.out.trans (hb.mono HBW.out.size))
    have hA1 := HA.out.below hb
    have hL1 := HLQ.out.below hb
    have hbox1 := HBOX.out.below hb
    have hc14 : ∀ wx : World, Below w1.heap.size w1 wx → _ := fun wx hx => copyNV (hA1.below hx) (hL1.below hx) hfa hf2.2 hsz.1 hsz.2 hR
    have hc16 : ∀ wx : World, Below w1.heap.size w1 wx → _ := fun wx hx => copyRV (hA1.below hx) hfa hf2.2 hsz.1 hsz.2 hR
    have hkeep : ∀ wx : World, Below w1.heap.size w1 wx → Boxed w.heap.size (w.heap.size + 1) A wx := fun wx hx => hbox1.below hx
    have hawk : ∀ wx : World, Below w1.heap.size w1 wx → Calls Tryd.prog 12 #[] wx (RV wx (.bool true)) := fun wx hx => awakeT (hL1.below hx)
    have HST := Lib.hid hsT
    have HC14 := Lib.hid hc14
    have HC16 := Lib.hid hc16
    have HKEEP := Lib.hid hkeep
    have HAWK := Lib.hid hawk
    clear hb hA1 hL1 hbox1 hc14 hc16 hkeep hawk hsT hfa hf2 hm hR c0 c1 c2 c3 c4 c5 d0 d1 d2 d3 d4 d5 hwq
    unfold Boxed at HKEEP
    go_wp2_with fail
    go_region_held3 (fun wx : World => (wx.cell? ⟨w.heap.size, 0, none⟩ = some (.string A.dat) ∧ wx.cell? ⟨w.heap.size, 1, none⟩ = some (.slice A.sa A.sn A.sc) ∧ wx.cell? ⟨w.heap.size, 2, none⟩ = some (.bool A.early) ∧ wx.cell? ⟨w.heap.size, 3, none⟩ = some (.bool A.broken) ∧ wx.cell? ⟨w.heap.size, 4, none⟩ = some (.bool A.wr) ∧ wx.cell? ⟨w.heap.size, 5, none⟩ = some (.slice A.pa A.pn A.pc)) ∧
        (wx.cell? ⟨w.heap.size + 1, 0, none⟩ = some (.slice A.ta A.tn A.tc) ∧ wx.cell? ⟨w.heap.size + 1, 1, none⟩ = some (.int .i64 A.room) ∧ wx.cell? ⟨w.heap.size + 1, 2, none⟩ = some (.bool A.over) ∧ wx.cell? ⟨w.heap.size + 1, 3, none⟩ = some (.bool A.rd) ∧ wx.cell? ⟨w.heap.size + 1, 4, none⟩ = some (.int .i64 A.bk) ∧ wx.cell? ⟨w.heap.size + 1, 5, none⟩ = some (.slice A.qa A.qn A.qc)))
      (first | exact HKEEP.out _ (Below.refl _ _) | exact HKEEP.out _ (Below.refl _ _).drew | exact HKEEP.out _ HBA.out | exact HKEEP.out _ HBB.out | exact HKEEP.out _ HBC.out | exact HKEEP.out _ HBD.out)
      (first
        | (go_simp; go_at_call 15; refine (HST.out _).mono ?_; rintro e15 w15 ⟨rfl, rfl⟩)
        | (go_simp; go_at_call 14; refine (HC14.out _ (Below.refl _ _).drew).mono ?_; rintro eA wA ⟨vA, rfl, hbA, hvA⟩; have HBA := Lib.hid ((Below.refl w1.heap.size w1).drew.trans hbA); have HVA := Lib.hid hvA; clear hbA hvA)
        | (go_simp; go_at_call 16; refine (HC16.out _ HBA.out).mono ?_; rintro eB wB ⟨vB, rfl, hbB, hvB⟩; have HBB := Lib.hid (HBA.out.trans (hbB.mono HBA.out.size)); have HVA := Lib.hid (HVA.out.below hbB); have HVB := Lib.hid hvB; clear hbB hvB)
        | (go_simp; go_at_call 13; refine (sameT HVA.out HVB.out).mono ?_; rintro eC wC ⟨rfl, hbC⟩; have HBC := Lib.hid (HBB.out.trans (hbC.mono HBB.out.size)); clear hbC)
        | (go_simp; go_at_call 12; refine (HAWK.out _ HBC.out).mono ?_; rintro eD wD ⟨rfl, hbD⟩; have HBD := Lib.hid (HBC.out.trans (hbD.mono HBC.out.size)); clear hbD))
    all_goals
      go_wp2
      go_ret
      exact ⟨rfl, HB.out.trans (HBD.out.mono HB.out.size)⟩
end Go.Proofs.YtigfgdefgnahpaaDoor
