/-
  The walk of PipeCopies. Not a statement of the seat.
-/
import Derived.Test.YtigfgdefgnahpaaDoorKitM
import Derived.Deep.RegionHeld3
import Derived.Deep.QuietTactic
import Derived.BigQuiet
namespace Go.Proofs.YtigfgdefgnahpaaDoor
open Go.RowKit

/-- the arguments boxed: their cells, in every world that has grown from here -/
def Boxed (sb db : Nat) (A : Sa) (w : World) : Prop :=
  (w.cell? ⟨sb, 0, none⟩ = some (.string A.dat) ∧ w.cell? ⟨sb, 1, none⟩ = some (.slice A.sa A.sn A.sc) ∧ w.cell? ⟨sb, 2, none⟩ = some (.bool A.early) ∧ w.cell? ⟨sb, 3, none⟩ = some (.bool A.broken) ∧ w.cell? ⟨sb, 4, none⟩ = some (.bool A.wr) ∧ w.cell? ⟨sb, 5, none⟩ = some (.slice A.pa A.pn A.pc)) ∧
  (w.cell? ⟨db, 0, none⟩ = some (.slice A.ta A.tn A.tc) ∧ w.cell? ⟨db, 1, none⟩ = some (.int .i64 A.room) ∧ w.cell? ⟨db, 2, none⟩ = some (.bool A.over) ∧ w.cell? ⟨db, 3, none⟩ = some (.bool A.rd) ∧ w.cell? ⟨db, 4, none⟩ = some (.int .i64 A.bk) ∧ w.cell? ⟨db, 5, none⟩ = some (.slice A.qa A.qn A.qc))
theorem Boxed.below {sb db : Nat} {A : Sa} {w w' : World} (h : Boxed sb db A w) (hb : Below w.heap.size w w') : Boxed sb db A w' := by
  obtain ⟨⟨a0, a1, a2, a3, a4, a5⟩, ⟨b0, b1, b2, b3, b4, b5⟩⟩ := h
  exact ⟨⟨cellAt hb a0, cellAt hb a1, cellAt hb a2, cellAt hb a3, cellAt hb a4, cellAt hb a5⟩, ⟨cellAt hb b0, cellAt hb b1, cellAt hb b2, cellAt hb b3, cellAt hb b4, cellAt hb b5⟩⟩

set_option maxRecDepth 100000 in
set_option maxHeartbeats 8000000 in
theorem copiesT {A : Sa} {zs tzs : List Int} {ps qs : List Pp} {eb : Nat} {n : Int} {w : World} (hA : ArgsAt w A zs tzs ps qs) (hL : Laid eb w) (hn : ∀ x ∈ ps, -9223372036854775808 ≤ x.n ∧ x.n ≤ 9223372036854775807) (hl : ∀ x ∈ ps, x.zs.length = x.sn) :
    Calls Tryd.prog 3 #[.agg #[.string A.dat, .slice A.sa A.sn A.sc, .bool A.early, .bool A.broken, .bool A.wr, .slice A.pa A.pn A.pc], .agg #[.slice A.ta A.tn A.tc, .int .i64 A.room, .bool A.over, .bool A.rd, .int .i64 A.bk, .slice A.qa A.qn A.qc], .int .i64 n] w (RV w (.bool true)) := by
  obtain ⟨wq, hwq⟩ : ∃ wq, (w.alloc (.cells #[.string A.dat, .slice A.sa A.sn A.sc, .bool A.early, .bool A.broken, .bool A.wr, .slice A.pa A.pn A.pc] 25)).alloc (.cells #[.slice A.ta A.tn A.tc, .int .i64 A.room, .bool A.over, .bool A.rd, .int .i64 A.bk, .slice A.qa A.qn A.qc] 29) = wq := ⟨_, rfl⟩
  have hbw : Below w.heap.size w wq := by rw [← hwq]; exact ((Below.refl _ w).alloc (Nat.le_refl _) _).alloc (by rw [sz_alloc]; omega) _
  have hb1 : Blk wq w.heap.size A.src := by rw [← hwq]; exact (Blk.new w #[.string A.dat, .slice A.sa A.sn A.sc, .bool A.early, .bool A.broken, .bool A.wr, .slice A.pa A.pn A.pc] 25).alloc _
  have hb2 : Blk wq (w.heap.size + 1) A.dst := by
    rw [← hwq]
    have := Blk.new (w.alloc (.cells #[.string A.dat, .slice A.sa A.sn A.sc, .bool A.early, .bool A.broken, .bool A.wr, .slice A.pa A.pn A.pc] 25)) #[.slice A.ta A.tn A.tc, .int .i64 A.room, .bool A.over, .bool A.rd, .int .i64 A.bk, .slice A.qa A.qn A.qc] 29
    rw [sz_alloc] at this
    exact this
  have hbox : Boxed w.heap.size (w.heap.size + 1) A wq := ⟨⟨hb1.cell 0 rfl, hb1.cell 1 rfl, hb1.cell 2 rfl, hb1.cell 3 rfl, hb1.cell 4 rfl, hb1.cell 5 rfl⟩, ⟨hb2.cell 0 rfl, hb2.cell 1 rfl, hb2.cell 2 rfl, hb2.cell 3 rfl, hb2.cell 4 rfl, hb2.cell 5 rfl⟩⟩
  have HA := Lib.hid (hA.below hbw)
  have HLQ := Lib.hid (hL.below hbw)
  have HBW := Lib.hid hbw
  have HBOX := Lib.hid hbox
  have HNN := Lib.hid (And.intro hn hl)
  obtain ⟨⟨c0, c1, c2, c3, c4, c5⟩, ⟨d0, d1, d2, d3, d4, d5⟩⟩ := hbox
  clear hA hbw hb1 hb2 hL hn hl
  cases hf : fitB A zs tzs ps qs
  · have HF := Lib.hid hf
    clear hf
    go_enter Tryd.func3, Tryd.ntmps3
    go_wp2_with fail
    refine (fitT HA.out HF.out).mono ?_
    rintro e w1 ⟨rfl, hb⟩
    have HB := Lib.hid (HBW.out.trans (hb.mono HBW.out.size))
    have HL1 := Lib.hid (HLQ.out.below hb)
    clear hb
    go_wp2_with fail
    refine (awakeT HL1.out).mono ?_
    rintro e w2 ⟨rfl, hb⟩
    have HB2 := Lib.hid (HB.out.trans (hb.mono HB.out.size))
    clear hb
    go_wp2
    go_ret
    exact ⟨rfl, HB2.out⟩
  · have HF := Lib.hid hf
    have hf2 : srcFit A.dat.size zs ps = true ∧ sinkFit tzs A.room A.rd A.bk qs = true := by unfold fitB at hf; simpa using hf
    have hfa : FitA A.dat.size zs ps := ⟨hf2.1, HNN.out.1, HNN.out.2⟩
    have hsz := sizeM_le n
    obtain ⟨m, hm⟩ : ∃ m, sizeM n = m := ⟨_, rfl⟩
    rw [hm] at hsz
    have hsT : ∀ wx : World, Calls Tryd.prog 15 #[.int .i64 n] wx (fun e w' => e = .returned (.int .i64 (m : Nat)) ∧ w' = wx) := fun wx => by rw [← hm]; exact sizeT n wx
    obtain ⟨R, hR⟩ : ∃ R, resOf A zs tzs ps qs m = R := ⟨_, rfl⟩
    clear hf
    go_enter Tryd.func3, Tryd.ntmps3
    go_wp2_with fail
    refine (fitT HA.out HF.out).mono ?_
    rintro e w1 ⟨rfl, hb⟩
    have HB := Lib.hid (HBW.out.trans (hb.mono HBW.out.size))
    have hA1 := HA.out.below hb
    have hL1 := HLQ.out.below hb
    have hbox1 := HBOX.out.below hb
    have hc14 : ∀ wx : World, Below w1.heap.size w1 wx → _ := fun wx hx => copyNV (hA1.below hx) (hL1.below hx) hfa hf2.2 hsz.1 hsz.2 hR
    have hc16 : ∀ wx : World, Below w1.heap.size w1 wx → _ := fun wx hx => copyRV (hA1.below hx) hfa hf2.2 hsz.1 hsz.2 hR
    have hkeep : ∀ wx : World, Below w1.heap.size w1 wx → Boxed w.heap.size (w.heap.size + 1) A wx := fun wx hx => hbox1.below hx
    have hawk : ∀ wx : World, Below w1.heap.size w1 wx → Calls Tryd.prog 12 #[] wx (RV wx (.bool true)) := fun wx hx => awakeT (hL1.below hx)
    have HST := Lib.hid hsT
    have HC14 := Lib.hid hc14
    have HC16 := Lib.hid hc16
    have HKEEP := Lib.hid hkeep
    have HAWK := Lib.hid hawk
    clear hb hA1 hL1 hbox1 hc14 hc16 hkeep hawk hsT hfa hf2 hm hR c0 c1 c2 c3 c4 c5 d0 d1 d2 d3 d4 d5 hwq
    unfold Boxed at HKEEP
    go_wp2_with fail
    go_region_held3 (fun wx : World => (wx.cell? ⟨w.heap.size, 0, none⟩ = some (.string A.dat) ∧ wx.cell? ⟨w.heap.size, 1, none⟩ = some (.slice A.sa A.sn A.sc) ∧ wx.cell? ⟨w.heap.size, 2, none⟩ = some (.bool A.early) ∧ wx.cell? ⟨w.heap.size, 3, none⟩ = some (.bool A.broken) ∧ wx.cell? ⟨w.heap.size, 4, none⟩ = some (.bool A.wr) ∧ wx.cell? ⟨w.heap.size, 5, none⟩ = some (.slice A.pa A.pn A.pc)) ∧
        (wx.cell? ⟨w.heap.size + 1, 0, none⟩ = some (.slice A.ta A.tn A.tc) ∧ wx.cell? ⟨w.heap.size + 1, 1, none⟩ = some (.int .i64 A.room) ∧ wx.cell? ⟨w.heap.size + 1, 2, none⟩ = some (.bool A.over) ∧ wx.cell? ⟨w.heap.size + 1, 3, none⟩ = some (.bool A.rd) ∧ wx.cell? ⟨w.heap.size + 1, 4, none⟩ = some (.int .i64 A.bk) ∧ wx.cell? ⟨w.heap.size + 1, 5, none⟩ = some (.slice A.qa A.qn A.qc)))
      (first | exact HKEEP.out _ (Below.refl _ _) | exact HKEEP.out _ (Below.refl _ _).drew | exact HKEEP.out _ HBA.out | exact HKEEP.out _ HBB.out | exact HKEEP.out _ HBC.out | exact HKEEP.out _ HBD.out)
      (first
        | (go_simp; go_at_call 15; refine (HST.out _).mono ?_; rintro e15 w15 ⟨rfl, rfl⟩)
        | (go_simp; go_at_call 14; refine (HC14.out _ (Below.refl _ _).drew).mono ?_; rintro eA wA ⟨vA, rfl, hbA, hvA⟩; have HBA := Lib.hid ((Below.refl w1.heap.size w1).drew.trans hbA); have HVA := Lib.hid hvA; clear hbA hvA)
        | (go_simp; go_at_call 16; refine (HC16.out _ HBA.out).mono ?_; rintro eB wB ⟨vB, rfl, hbB, hvB⟩; have HBB := Lib.hid (HBA.out.trans (hbB.mono HBA.out.size)); have HVA := Lib.hid (HVA.out.below hbB); have HVB := Lib.hid hvB; clear hbB hvB)
        | (go_simp; go_at_call 13; refine (sameT HVA.out HVB.out).mono ?_; rintro eC wC ⟨rfl, hbC⟩; have HBC := Lib.hid (HBB.out.trans (hbC.mono HBB.out.size)); clear hbC)
        | (go_simp; go_at_call 12; refine (HAWK.out _ HBC.out).mono ?_; rintro eD wD ⟨rfl, hbD⟩; have HBD := Lib.hid (HBC.out.trans (hbD.mono HBC.out.size)); clear hbD))
    all_goals
      go_wp2
      go_ret
      exact ⟨rfl, HB.out.trans (HBD.out.mono HB.out.size)⟩
end Go.Proofs.YtigfgdefgnahpaaDoor

/-
  A region that draws its order and whose callees only make memory: one walk serves every order. Not a statement of the seat.
-/
namespace Go.Proofs.YtigfgdefgnahpaaDoor
open Go.RowKit

/-- a world that has grown out of w: nothing that lay has turned (a structure of its own, so that simp does not take it apart) -/
structure Grew (w : World) where
  val : World
  below : Below w.heap.size w val

instance (w : World) : Nonempty (Grew w) := ⟨⟨w, Below.refl _ _⟩⟩

theorem Grew.cell {w : World} {b o : Nat} {v : Value} (h : w.cell? ⟨b, o, none⟩ = some v) : ∀ x : Grew w, x.val.cell? ⟨b, o, none⟩ = some v := fun x => cellAt x.below h

theorem wp_region_grew {P : Program} {id : Nat} {Q : Exit → Act → World → Prop} {a : Act} {w : World} {l : List Oper} (hm : P.follows .mixedOrders = true) (hB : Region.lexB .any l.toArray = true)
    (h : wpQuiet P l.toArray (fun w' => ∃ x : Grew w, w' = x.val) (fun a' => ∀ w', (∃ x : Grew w, w' = x.val) → Q .normal a' w') l a) : (Code.region id l.toArray true).wp P Q a w :=
  wp_region_quiet (C := fun w' => ∃ x : Grew w, w' = x.val) hm hB ⟨⟨w.drew, (Below.refl _ _).drew⟩, rfl⟩ (by simpa using h)

/-- a callee's contract, met in such a world -/
theorem grew_call {P : Program} {f : FuncId} {args : Array Value} {w : World} {x : Grew w} {v : Value} (h : Calls P f args x.val (RV x.val v)) :
    Calls P f args x.val fun e w'' => e = .returned v ∧ ∃ y : Grew w, w'' = y.val :=
  h.mono fun _ w'' ⟨he, hb⟩ => ⟨he, ⟨w'', x.below.trans (hb.mono x.below.size)⟩, rfl⟩
/-- .. of one that leaves the world -/
theorem grew_same {P : Program} {f : FuncId} {args : Array Value} {w : World} {x : Grew w} {v : Value} (h : Calls P f args x.val (fun e w' => e = .returned v ∧ w' = x.val)) :
    Calls P f args x.val fun e w'' => e = .returned v ∧ ∃ y : Grew w, w'' = y.val :=
  h.mono fun _ _ ⟨he, hb⟩ => ⟨he, x, hb⟩
end Go.Proofs.YtigfgdefgnahpaaDoor

/-
  The walk of Way (the code's). Not a statement of the seat.
-/
namespace Go.Proofs.YtigfgdefgnahpaaDoor
open Go.RowKit

theorem fastB_upto {wr : Bool} {ps : List Pp} {n : Nat} (hn : ps.length = n) : fastB wr (upto ps n) = (wr && onlyB ps) := by
  unfold fastB upto onlyB
  rw [← hn, List.take_length, List.all_reverse, List.all_map]
  rfl
theorem fastK_upto {rd : Bool} {ps : List Pp} {n : Nat} (hn : ps.length = n) : fastK rd (uptoK ps n) = (rd && onlyB ps) := by
  unfold fastK uptoK onlyB
  rw [← hn, List.take_length, List.all_reverse, List.all_map]
  rfl

theorem wayKeep {w : World} {b c : Nat} {v0 v1 v2 v3 v4 v5 u0 u1 u2 u3 u4 u5 : Value} (h : Blk w b [v0, v1, v2, v3, v4, v5]) (g : Blk w c [u0, u1, u2, u3, u4, u5]) :
    (w.cell? ⟨b, 0, none⟩ = some v0 ∧ w.cell? ⟨b, 1, none⟩ = some v1 ∧ w.cell? ⟨b, 2, none⟩ = some v2 ∧ w.cell? ⟨b, 3, none⟩ = some v3 ∧ w.cell? ⟨b, 4, none⟩ = some v4 ∧ w.cell? ⟨b, 5, none⟩ = some v5) ∧
    (w.cell? ⟨c, 0, none⟩ = some u0 ∧ w.cell? ⟨c, 1, none⟩ = some u1 ∧ w.cell? ⟨c, 2, none⟩ = some u2 ∧ w.cell? ⟨c, 3, none⟩ = some u3 ∧ w.cell? ⟨c, 4, none⟩ = some u4 ∧ w.cell? ⟨c, 5, none⟩ = some u5) :=
  ⟨⟨h.cell 0 rfl, h.cell 1 rfl, h.cell 2 rfl, h.cell 3 rfl, h.cell 4 rfl, h.cell 5 rfl⟩, ⟨g.cell 0 rfl, g.cell 1 rfl, g.cell 2 rfl, g.cell 3 rfl, g.cell 4 rfl, g.cell 5 rfl⟩⟩

set_option maxRecDepth 100000 in
set_option maxHeartbeats 4000000 in
theorem wayN {dat : ByteArray} {sa ta pa qa : Option Addr} {sn sc tn tc pn pc qn qc v : Nat} {zs tzs : List Int} {early broken wrt tover trd : Bool} {troom tbk : Int} {ps qs : List Pp} {w : World}
    (hZ : RdK w free none 1 sa sn sc (I3 zs)) (hP : Pipes w free pa pn pc ps) (hTZ : RdK w free none 1 ta tn tc (I3 tzs)) (hQ : Pipes w free qa qn qc qs) (hrd : ∀ x ∈ ps, x.rd = false) (hpn : pn ≤ 10) (hqn : qn ≤ 10) (hd : dat.size ≤ 65535)
    (hv : wayM wrt ps trd qs = v) :
    Calls Tryd.prog 18 #[.agg #[.string dat, .slice sa sn sc, .bool early, .bool broken, .bool wrt, .slice pa pn pc], .agg #[.slice ta tn tc, .int .i64 troom, .bool tover, .bool trd, .int .i64 tbk, .slice qa qn qc]] w (RV w (.int .i64 v)) := by
  obtain ⟨wq, hwq⟩ : ∃ wq, (w.alloc (.cells #[.string dat, .slice sa sn sc, .bool early, .bool broken, .bool wrt, .slice pa pn pc] 25)).alloc (.cells #[.slice ta tn tc, .int .i64 troom, .bool tover, .bool trd, .int .i64 tbk, .slice qa qn qc] 29) = wq := ⟨_, rfl⟩
  have hbnd : Bnd w free := fun _ _ => rfl
  have hq0 : Step (fun _ => False) w free wq free := by rw [← hwq]; exact ((Step.refl _ hbnd).alloc _).alloc _
  have hqs : wq.heap.size = w.heap.size + 2 := by rw [← hwq, sz_alloc, sz_alloc]
  have hb1 : Blk wq w.heap.size [.string dat, .slice sa sn sc, .bool early, .bool broken, .bool wrt, .slice pa pn pc] := by rw [← hwq]; exact (Blk.new _ _ _).alloc _
  have hb2 : Blk wq (w.heap.size + 1) [.slice ta tn tc, .int .i64 troom, .bool tover, .bool trd, .int .i64 tbk, .slice qa qn qc] := by rw [← hwq]; have := Blk.new (w.alloc (.cells #[.string dat, .slice sa sn sc, .bool early, .bool broken, .bool wrt, .slice pa pn pc] 25)) #[.slice ta tn tc, .int .i64 troom, .bool tover, .bool trd, .int .i64 tbk, .slice qa qn qc] 29; rw [sz_alloc] at this; exact this
  obtain ⟨wg, hwg⟩ : ∃ wg, wq.alloc (.cells #[.pointer none, .pointer none, .slice none 0 0, .slice none 0 0, .pointer none] 60) = wg := ⟨_, rfl⟩
  have hg0 : Step (fun k => k = 32) wq free wg (free.give wq.heap.size 32) := by rw [← hwg]; exact ((Step.refl _ hq0.bound).alloc _).give (Nat.le_refl _) (by rw [sz_alloc]; omega) rfl
  have hG : GearAt wg (free.give wq.heap.size 32) wq.heap.size (.pointer none) (.pointer none) (.pointer none) [] [] := by
    refine ⟨none, 0, 0, none, 0, 0, Own.give_same _ _ _, by rw [← hwg]; exact Blk.new _ _ _, ⟨Row.nil _ _ _, fun x hx => by cases hx⟩, ⟨Row.nil _ _ _, fun x hx => by cases hx⟩⟩
  have hwg0 := (hq0.mono (K' := fun k => k = 32) (fun _ h => h.elim)).trans hg0
  have hx1 := hb1.below (by rw [← hwg]; exact (Below.refl _ _).alloc (Nat.le_refl _) _ : Below wq.heap.size wq wg)
  have hx2 := hb2.below (by rw [← hwg]; exact (Below.refl _ _).alloc (Nat.le_refl _) _ : Below wq.heap.size wq wg)
  have hd0 : Step (fun _ => False) wg (free.give wq.heap.size 32) wg.drew (free.give wq.heap.size 32) := (Step.refl _ hwg0.bound).drew
  have HX2 := Lib.hid (hx2.drew)
  have HX1 := Lib.hid (hx1.drew)
  have hwg1 := hwg0.trans (hd0.mono (fun _ h => h.elim))
  have HWG0 := Lib.hid hwg1
  have HG := Lib.hid (hG.step hd0 (fun h => h) (fun h => h) (fun h => h))
  have HPW := Lib.hid (hP.step hwg1)
  have HQW := Lib.hid (hQ.step hwg1)
  have HZW := Lib.hid (hZ.step hwg1 (fun _ h => by cases h))
  have HTW := Lib.hid (hTZ.step hwg1 (fun _ h => by cases h))
  have HRD := Lib.hid hrd
  have HQS := Lib.hid hqs
  have hplen := hP.len
  have hqlen := hQ.len
  have HV := Lib.hid hv
  have hun : (free.give wq.heap.size 32) w.heap.size = none ∧ (free.give wq.heap.size 32) (w.heap.size + 1) = none := ⟨Own.give_other _ (by omega), Own.give_other _ (by omega)⟩
  have HUN := Lib.hid hun
  have c0 := hx1.cell 0 rfl
  have c1 := hx1.cell 1 rfl
  have c2 := hx1.cell 2 rfl
  have c3 := hx1.cell 3 rfl
  have c4 := hx1.cell 4 rfl
  have c5 := hx1.cell 5 rfl
  have d0 := hx2.cell 0 rfl
  have d1 := hx2.cell 1 rfl
  have d2 := hx2.cell 2 rfl
  have d3 := hx2.cell 3 rfl
  have d4 := hx2.cell 4 rfl
  have d5 := hx2.cell 5 rfl
  clear hx1 hx2 hb1 hb2 hq0 hg0 hG hwg0 hwg1 hd0 hZ hP hTZ hQ hrd hqs hun hbnd hv
  go_enter Tryd.func18, Tryd.ntmps18
  go_wp2_with fail
  clear hwq hwg
  go_region_held3 (fun wx : World => (wx.cell? ⟨w.heap.size, 0, none⟩ = some (.string dat) ∧ wx.cell? ⟨w.heap.size, 1, none⟩ = some (.slice sa sn sc) ∧ wx.cell? ⟨w.heap.size, 2, none⟩ = some (.bool early) ∧ wx.cell? ⟨w.heap.size, 3, none⟩ = some (.bool broken) ∧ wx.cell? ⟨w.heap.size, 4, none⟩ = some (.bool wrt) ∧ wx.cell? ⟨w.heap.size, 5, none⟩ = some (.slice pa pn pc)) ∧
      (wx.cell? ⟨w.heap.size + 1, 0, none⟩ = some (.slice ta tn tc) ∧ wx.cell? ⟨w.heap.size + 1, 1, none⟩ = some (.int .i64 troom) ∧ wx.cell? ⟨w.heap.size + 1, 2, none⟩ = some (.bool tover) ∧ wx.cell? ⟨w.heap.size + 1, 3, none⟩ = some (.bool trd) ∧ wx.cell? ⟨w.heap.size + 1, 4, none⟩ = some (.int .i64 tbk) ∧ wx.cell? ⟨w.heap.size + 1, 5, none⟩ = some (.slice qa qn qc)))
    (first | exact ⟨⟨c0, c1, c2, c3, c4, c5⟩, ⟨d0, d1, d2, d3, d4, d5⟩⟩ | exact HK1.out | exact HK0.out)
    (first
      | (go_simp; go_at_call 30; refine (sourceN HG.out HZW.out HPW.out HRD.out (by omega) hd HWG0.out.bound).mono ?_; rintro e1 w1 ⟨v1, rfl, r1, sh, hsw, g1, hC1, hG1⟩;
          have hX := wayKeep (HX1.out.unowned g1 HUN.out.1) (HX2.out.unowned g1 HUN.out.2); have HX1b := Lib.hid (HX1.out.unowned g1 HUN.out.1); have HX2b := Lib.hid (HX2.out.unowned g1 HUN.out.2);
          have HUN1 := Lib.hid (And.intro ((g1.old _ HX1.out.lt).trans HUN.out.1) ((g1.old _ HX2.out.lt).trans HUN.out.2)); have HK0 := Lib.hid hX; have HC1 := Lib.hid hC1; have HGA := Lib.hid hG1; have HG1 := Lib.hid g1; have HSW := Lib.hid hsw; clear hX hC1 hG1 g1 hsw)
      | (go_simp; go_at_call 31; refine (sinkN HGA.out (HTW.out.step HG1.out (fun _ h => by cases h)) (HQW.out.step HG1.out) (by omega) (by have := countsOf_len sh (upto ps pn); have := upto_len (ps := ps) (i := pn) (by omega); omega) HG1.out.bound).mono ?_; rintro e2 w2 ⟨v2, rfl, r2, sk, hsk, g2, hS2, hG2⟩;
          have HK1 := Lib.hid (wayKeep (HX1b.out.unowned g2 HUN1.out.1) (HX2b.out.unowned g2 HUN1.out.2)); have HS2 := Lib.hid hS2; have HG2 := Lib.hid g2; have HSK := Lib.hid hsk; clear hS2 hG2 g2 hsk))
  all_goals
    have hC2 := HC1.out.step HG2.out (fun k hk h => by unfold KS at h; have := upto_len (ps := ps) (i := pn) (by omega); omega) (by unfold KS; omega)
    have as1 := chainAs86 hC2 62
    have as2 := sinkAs89 HS2.out 65
    rw [HSW.out, fastB_upto hplen] at as1
    rw [HSK.out, fastK_upto hqlen] at as2
    obtain ⟨K0, rv0, T, x, hrvE, hm0⟩ := chainMeth hC2
    clear hm0
    subst hrvE
    obtain ⟨K1, wv0, T1, x1, hwvE, hm1'⟩ := sinkMeth HS2.out
    clear hm1'
    subst hwvE
    have hbel : Step (fun _ => True) w free w2 r2 := ((HWG0.out.mono (fun _ _ => trivial)).trans (HG1.out.mono (fun _ _ => trivial))).trans (HG2.out.mono (fun _ _ => trivial))
    have HBB := Lib.hid (hbel.below (Nat.le_refl _) (fun _ _ => rfl))
    have hv := HV.out
    unfold wayM at hv
    clear hC2 hbel
    cases h1 : (wrt && onlyB ps)
    · rw [h1] at hv as1
      have as1' : ∀ w', (Instr.typeAssert (.iface T x) 62 86 true).run Tryd.prog w' = .ok (.tuple #[.nilIface, .bool false]) w' := as1
      clear as1
      cases h2 : (trd && onlyB qs)
      · rw [h2] at hv as2
        have as2' : ∀ w', (Instr.typeAssert (.iface T1 x1) 65 89 true).run Tryd.prog w' = .ok (.tuple #[.nilIface, .bool false]) w' := as2
        clear as2 h1 h2
        obtain rfl : v = 0 := hv.symm
        clear hv
        go_wp2
        go_ret
        exact ⟨rfl, HBB.out⟩
      · rw [h2] at hv as2
        have as2' : ∀ w', (Instr.typeAssert (.iface T1 x1) 65 89 true).run Tryd.prog w' = .ok (.tuple #[.iface T1 x1, .bool true]) w' := as2
        clear as2 h1 h2
        obtain rfl : v = 2 := hv.symm
        clear hv
        go_wp2
        go_ret
        exact ⟨rfl, HBB.out⟩
    · rw [h1] at hv as1
      have as1' : ∀ w', (Instr.typeAssert (.iface T x) 62 86 true).run Tryd.prog w' = .ok (.tuple #[.iface T x, .bool true]) w' := as1
      clear as1 as2 h1
      obtain rfl : v = 1 := hv.symm
      clear hv
      go_wp2
      go_ret
      exact ⟨rfl, HBB.out⟩
end Go.Proofs.YtigfgdefgnahpaaDoor

/-
  The walk of plain (the law's own). Not a statement of the seat.
-/
namespace Go.Proofs.YtigfgdefgnahpaaDoor
open Go.RowKit

def opsB (ps : List Pp) : Bool := ps.all (fun p => !(p.op == 3) && !(p.op == 4))
def restB (broken over : Bool) (tn : Nat) (room : Int) : Bool := !broken && (tn == 0) && decide (room < 0) && !over
def plainB (A : Sa) (ps : List Pp) : Bool := opsB ps && restB A.broken A.over A.tn A.room
theorem opsB_drop {ps : List Pp} {k : Nat} {p : Pp} (h : ps[k]? = some p) : opsB (ps.drop k) = ((!(p.op == 3) && !(p.op == 4)) && opsB (ps.drop (k + 1))) := by
  have hl := (List.getElem?_eq_some_iff.1 h).1
  have hv := (List.getElem?_eq_some_iff.1 h).2
  unfold opsB
  rw [List.drop_eq_getElem_cons hl, List.all_cons, hv]

set_option maxRecDepth 100000 in
set_option maxHeartbeats 2000000 in
theorem plainT {dat : ByteArray} {sa ta pa qa : Option Addr} {sn sc tn tc pn pc qn qc : Nat} {early broken wrt tover trd : Bool} {troom tbk : Int} {ps : List Pp} {w : World} {v : Bool}
    (hP : Pipes w free pa pn pc ps) (hv : (opsB ps && restB broken tover tn troom) = v) :
    Calls Tryd.prog 17 #[.agg #[.string dat, .slice sa sn sc, .bool early, .bool broken, .bool wrt, .slice pa pn pc], .agg #[.slice ta tn tc, .int .i64 troom, .bool tover, .bool trd, .int .i64 tbk, .slice qa qn qc]] w (RV w (.bool v)) := by
  obtain ⟨wq, hwq⟩ : ∃ wq, (w.alloc (.cells #[.string dat, .slice sa sn sc, .bool early, .bool broken, .bool wrt, .slice pa pn pc] 25)).alloc (.cells #[.slice ta tn tc, .int .i64 troom, .bool tover, .bool trd, .int .i64 tbk, .slice qa qn qc] 29) = wq := ⟨_, rfl⟩
  have hbnd : Bnd w free := fun _ _ => rfl
  have hq0 : Step (fun _ => False) w free wq free := by rw [← hwq]; exact ((Step.refl _ hbnd).alloc _).alloc _
  have hb1 : Blk wq w.heap.size [.string dat, .slice sa sn sc, .bool early, .bool broken, .bool wrt, .slice pa pn pc] := by rw [← hwq]; exact (Blk.new _ _ _).alloc _
  have hb2 : Blk wq (w.heap.size + 1) [.slice ta tn tc, .int .i64 troom, .bool tover, .bool trd, .int .i64 tbk, .slice qa qn qc] := by
    rw [← hwq]
    have := Blk.new (w.alloc (.cells #[.string dat, .slice sa sn sc, .bool early, .bool broken, .bool wrt, .slice pa pn pc] 25)) #[.slice ta tn tc, .int .i64 troom, .bool tover, .bool trd, .int .i64 tbk, .slice qa qn qc] 29
    rw [sz_alloc] at this
    exact this
  have hbel : Below w.heap.size w wq := by rw [← hwq]; exact ((Below.refl _ _).alloc (Nat.le_refl _) _).alloc (by rw [sz_alloc]; omega) _
  have hlen := hP.len
  have hcap := hP.1.1.le
  have hmax := hP.1.1.max
  unfold maxLen at hmax
  have HB := Lib.hid hbel
  have HP := Lib.hid (hP.step hq0)
  have HL := Lib.hid hlen
  have HV := Lib.hid hv
  have c3 := hb1.cell 3 rfl
  have c5 := hb1.cell 5 rfl
  have d0 := hb2.cell 0 rfl
  have d1 := hb2.cell 1 rfl
  have d2 := hb2.cell 2 rfl
  clear hP hlen hq0 hb1 hb2 hbel hbnd hv
  go_enter Tryd.func17, Tryd.ntmps17
  go_wp2_with fail
  go_loopw [5] (fun ix wr => ∃ k, k ≤ pn ∧ ix = .int .i64 ((k : Nat) : Int) ∧ wr = wq ∧ opsB ps = opsB (ps.drop k)) (fun ix _ => pn - (intOf ix).toNat)
  case atStart => exact ⟨0, Nat.zero_le _, rfl, by first | rfl | trivial | exact hwq, by simp⟩
  case round =>
    obtain ⟨k, hk, rfl, rfl, heq⟩ := hrel
    have HEQ := Lib.hid heq
    clear heq hwq
    by_cases hlt : k < pn
    · obtain ⟨b, off, p, rfl, hb, hpk, hmem, hcell⟩ := HP.out.at hlt
      have q0 := hcell 0 (by omega)
      simp only [Pp.cells, List.getElem?_cons_zero, Nat.add_zero] at q0
      have hki : (k : Int) < pn := by omega
      have HST := Lib.hid (opsB_drop hpk)
      clear hcell hpk hmem
      cases h3 : (p.op == 3)
      · cases h4 : (p.op == 4)
        · have HF := Lib.hid (show opsB ps = opsB (ps.drop (k + 1)) by rw [HEQ.out, HST.out, h3, h4]; rfl)
          go_wp2
          go_roundw
          case rel => exact ⟨k + 1, by omega, by go_num, by first | rfl | trivial, HF.out⟩
          case measure => simp [intOf]; omega
        · have hf : v = false := by rw [← HV.out, HEQ.out, HST.out, h3, h4]; rfl
          subst hf
          go_wp2
          go_ret
          exact ⟨rfl, HB.out⟩
      · have hf : v = false := by rw [← HV.out, HEQ.out, HST.out, h3]; rfl
        subst hf
        go_wp2
        go_ret
        exact ⟨rfl, HB.out⟩
    · obtain rfl : k = pn := by omega
      have hf : restB broken tover tn troom = v := by rw [← HV.out, HEQ.out, List.drop_of_length_le (by rw [HL.out]; omega)]; simp [opsB]
      unfold restB at hf
      by_cases h1 : (tn : Int) = 0
      · have h1' : tn = 0 := by omega
        subst h1'
        by_cases h2 : troom < 0
        · have hd : decide (troom < 0) = true := by simpa using h2
          cases broken <;> cases tover
          all_goals
            rw [hd] at hf
            first | (obtain rfl : v = true := hf.symm) | (obtain rfl : v = false := hf.symm)
            go_wp2
            go_ret
            exact ⟨rfl, HB.out⟩
        · have hd : decide (troom < 0) = false := by simpa using h2
          cases broken <;> cases tover
          all_goals
            rw [hd] at hf
            first | (obtain rfl : v = true := hf.symm) | (obtain rfl : v = false := hf.symm)
            go_wp2
            go_ret
            exact ⟨rfl, HB.out⟩
      · have h1' : (tn == 0) = false := by simp; omega
        have h1'' : ((tn : Int) == 0) = false := by simpa using h1
        cases broken
        all_goals
          rw [h1'] at hf
          obtain rfl : v = false := hf.symm
          go_wp2
          go_ret
          exact ⟨rfl, HB.out⟩
/-- two boxes laid -/
theorem twoBoxes (w : World) (v0 v1 v2 v3 v4 v5 u0 u1 u2 u3 u4 u5 : Value) (t t' : TypeId) {wb : World} (h : (w.alloc (.cells #[v0, v1, v2, v3, v4, v5] t)).alloc (.cells #[u0, u1, u2, u3, u4, u5] t') = wb) :
    Below w.heap.size w wb ∧ Blk wb w.heap.size [v0, v1, v2, v3, v4, v5] ∧ Blk wb (w.heap.size + 1) [u0, u1, u2, u3, u4, u5] := by
  subst h
  refine ⟨((Below.refl _ w).alloc (Nat.le_refl _) _).alloc (by rw [sz_alloc]; omega) _, (Blk.new w #[v0, v1, v2, v3, v4, v5] t).alloc _, ?_⟩
  have := Blk.new (w.alloc (.cells #[v0, v1, v2, v3, v4, v5] t)) #[u0, u1, u2, u3, u4, u5] t'
  rw [sz_alloc] at this
  exact this
/-- an empty record, laid -/
theorem zeroRec {w wA : World} (hb : Below ((w.alloc (.cells #[.int .i64 0, .int .i64 0, .int .i64 0, .string ⟨#[]⟩, .slice none 0 0, .slice none 0 0, .int .i64 0, .int .i64 0, .int .i64 0] 37)).drew).heap.size ((w.alloc (.cells #[.int .i64 0, .int .i64 0, .int .i64 0, .string ⟨#[]⟩, .slice none 0 0, .slice none 0 0, .int .i64 0, .int .i64 0, .int .i64 0] 37)).drew) wA) :
    Blk wA w.heap.size [.int .i64 0, .int .i64 0, .int .i64 0, .string ⟨#[]⟩, .slice none 0 0, .slice none 0 0, .int .i64 0, .int .i64 0, .int .i64 0] ∧ wA.cell? ⟨w.heap.size, 0, none⟩ = some (.int .i64 0) ∧ wA.cell? ⟨w.heap.size, 1, none⟩ = some (.int .i64 0) ∧ wA.cell? ⟨w.heap.size, 2, none⟩ = some (.int .i64 0) ∧ wA.cell? ⟨w.heap.size, 3, none⟩ = some (.string ⟨#[]⟩) ∧ wA.cell? ⟨w.heap.size, 4, none⟩ = some (.slice none 0 0) ∧ wA.cell? ⟨w.heap.size, 5, none⟩ = some (.slice none 0 0) ∧ wA.cell? ⟨w.heap.size, 6, none⟩ = some (.int .i64 0) ∧ wA.cell? ⟨w.heap.size, 7, none⟩ = some (.int .i64 0) ∧ wA.cell? ⟨w.heap.size, 8, none⟩ = some (.int .i64 0) ∧ wA.frozen? ⟨w.heap.size, 0, none⟩ = false ∧ wA.frozen? ⟨w.heap.size, 1, none⟩ = false ∧ wA.frozen? ⟨w.heap.size, 2, none⟩ = false ∧ wA.frozen? ⟨w.heap.size, 3, none⟩ = false ∧ wA.frozen? ⟨w.heap.size, 4, none⟩ = false ∧ wA.frozen? ⟨w.heap.size, 5, none⟩ = false ∧ wA.frozen? ⟨w.heap.size, 6, none⟩ = false ∧ wA.frozen? ⟨w.heap.size, 7, none⟩ = false ∧ wA.frozen? ⟨w.heap.size, 8, none⟩ = false := by
  have hz : Blk wA w.heap.size [.int .i64 0, .int .i64 0, .int .i64 0, .string ⟨#[]⟩, .slice none 0 0, .slice none 0 0, .int .i64 0, .int .i64 0, .int .i64 0] := ((Blk.new w #[.int .i64 0, .int .i64 0, .int .i64 0, .string ⟨#[]⟩, .slice none 0 0, .slice none 0 0, .int .i64 0, .int .i64 0, .int .i64 0] 37).drew).below hb
  exact ⟨hz, hz.cell 0 rfl, hz.cell 1 rfl, hz.cell 2 rfl, hz.cell 3 rfl, hz.cell 4 rfl, hz.cell 5 rfl, hz.cell 6 rfl, hz.cell 7 rfl, hz.cell 8 rfl, hz.free 0 (by simp), hz.free 1 (by simp), hz.free 2 (by simp), hz.free 3 (by simp), hz.free 4 (by simp), hz.free 5 (by simp), hz.free 6 (by simp), hz.free 7 (by simp), hz.free 8 (by simp)⟩
theorem Blk.put9 {w : World} {b : Nat} {x0 x1 x2 x3 x4 x5 x6 x7 x8 : Value} (h : Blk w b [x0, x1, x2, x3, x4, x5, x6, x7, x8]) (v0 v1 v2 v3 v4 v5 v6 v7 v8 : Value) :
    Blk (((((((((w.setCell ⟨b, 0, none⟩ v0).setCell ⟨b, 1, none⟩ v1).setCell ⟨b, 2, none⟩ v2).setCell ⟨b, 3, none⟩ v3).setCell ⟨b, 4, none⟩ v4).setCell ⟨b, 5, none⟩ v5).setCell ⟨b, 6, none⟩ v6).setCell ⟨b, 7, none⟩ v7).setCell ⟨b, 8, none⟩ v8) b [v0, v1, v2, v3, v4, v5, v6, v7, v8] := by
  have h0 : Blk _ b [v0, x1, x2, x3, x4, x5, x6, x7, x8] := h.set (j := 0) v0
  have h1 : Blk _ b [v0, v1, x2, x3, x4, x5, x6, x7, x8] := h0.set (j := 1) v1
  have h2 : Blk _ b [v0, v1, v2, x3, x4, x5, x6, x7, x8] := h1.set (j := 2) v2
  have h3 : Blk _ b [v0, v1, v2, v3, x4, x5, x6, x7, x8] := h2.set (j := 3) v3
  have h4 : Blk _ b [v0, v1, v2, v3, v4, x5, x6, x7, x8] := h3.set (j := 4) v4
  have h5 : Blk _ b [v0, v1, v2, v3, v4, v5, x6, x7, x8] := h4.set (j := 5) v5
  have h6 : Blk _ b [v0, v1, v2, v3, v4, v5, v6, x7, x8] := h5.set (j := 6) v6
  have h7 : Blk _ b [v0, v1, v2, v3, v4, v5, v6, v7, x8] := h6.set (j := 7) v7
  exact h7.set (j := 8) v8
theorem Below.put9 {N : Nat} {v w : World} {b : Nat} (h : Below N v w) (hb : N ≤ b) (v0 v1 v2 v3 v4 v5 v6 v7 v8 : Value) :
    Below N v (((((((((w.setCell ⟨b, 0, none⟩ v0).setCell ⟨b, 1, none⟩ v1).setCell ⟨b, 2, none⟩ v2).setCell ⟨b, 3, none⟩ v3).setCell ⟨b, 4, none⟩ v4).setCell ⟨b, 5, none⟩ v5).setCell ⟨b, 6, none⟩ v6).setCell ⟨b, 7, none⟩ v7).setCell ⟨b, 8, none⟩ v8) :=
  ((((((((h.setCell hb v0).setCell hb v1).setCell hb v2).setCell hb v3).setCell hb v4).setCell hb v5).setCell hb v6).setCell hb v7).setCell hb v8
end Go.Proofs.YtigfgdefgnahpaaDoor
