/-
  The walk of Start (the document's). Not a statement of the seat.
-/
import Derived.Test.YtigfgdefgnahpaaDoorStartRows
import Derived.Test.YtigfgdefgnahpaaDoorTold
import Derived.Deep.CutRange
namespace Go.Proofs.YtigfgdefgnahpaaDoor
open Go.RowKit

theorem ptr82Info : ∃ i : TypeInfo, Tryd.prog.info? 82 = some i ∧ i.zero = some (.pointer none) ∧ i.size = 1 ∧ i.bytes = 8 := by
  have h : (Tryd.prog.info? 82).map (fun i => (i.zero, i.size, i.bytes)) = some (some (.pointer none), 1, 8) := by kernel_rfl
  cases hi : Tryd.prog.info? 82 with
  | none => rw [hi] at h; cases h
  | some i =>
    rw [hi] at h
    simp only [Option.map_some, Option.some.injEq, Prod.mk.injEq] at h
    exact ⟨i, rfl, h.1, h.2.1, h.2.2⟩
theorem Rd.one (w : World) (v : Value) (e : TypeId) : Rd (w.alloc (.cells #[v] e)) 1 (some ⟨w.heap.size, 0, none⟩) 1 1 [v] := by
  refine ⟨by simp, Nat.le_refl _, by unfold maxLen; omega, .inr ⟨_, _, rfl, by rw [sz_alloc]; omega, fun j hj => ?_⟩⟩
  have hj0 : j = 0 := by simpa using hj
  subst hj0
  exact (Blk.new w #[v] e).cell 0 rfl
theorem Rd.oneAt (w : World) (v : Value) (e : TypeId) {g : Nat} (hg : g = w.heap.size) : Rd (w.alloc (.cells #[v] e)) 1 (some ⟨g, 0, none⟩) 1 1 [v] := by
  subst hg
  exact Rd.one w v e
def StartP (A : Sa) (ps : List Pp) (t : Tank) (w : World) (r : Own) (e : Ending) (w' : World) : Prop :=
  ∃ wb r' tb sb db R bl, e = .returned (.pointer (some ⟨wb, 0, none⟩)) ∧ Step (· ≤ 20) w r w' r' ∧ StartAt w' r' A ps wb tb sb db R bl A.pn A.pn A.pn A.qn t
def S1 (A : Sa) (ps : List Pp) (t : Tank) (wb tb sb db : Nat) (w : World) (r : Own) (i j : Nat) (wx : World) : Prop :=
  ∃ rx R bl, Step (· ≤ 20) w r wx rx ∧ StartAt wx rx A ps wb tb sb db R bl i i i j t

set_option maxRecDepth 100000 in
set_option maxHeartbeats 8000000 in
theorem startR {A : Sa} {ps qs : List Pp} {tzs : List Int} {w : World} {r : Own} (hbnd : Bnd w r) (hP : Pipes w r A.pa A.pn A.pc ps) (hQ : Pipes w r A.qa A.qn A.qc qs) (hZ : RdK w r none 1 A.ta A.tn A.tc (I3 tzs)) (hpn : A.pn ≤ 10) (hqn : A.qn ≤ 10) :
    Calls Tryd.prog 34 #[.agg #[.string A.dat, .slice A.sa A.sn A.sc, .bool A.early, .bool A.broken, .bool A.wr, .slice A.pa A.pn A.pc], .agg #[.slice A.ta A.tn A.tc, .int .i64 A.room, .bool A.over, .bool A.rd, .int .i64 A.bk, .slice A.qa A.qn A.qc]] w
      (StartP A ps (freshT tzs A.room A.over) w r) := by
  obtain ⟨wq, hwq⟩ : ∃ wq, (((w.alloc (.cells #[.string A.dat, .slice A.sa A.sn A.sc, .bool A.early, .bool A.broken, .bool A.wr, .slice A.pa A.pn A.pc] 25)).alloc (.cells #[.slice A.ta A.tn A.tc, .int .i64 A.room, .bool A.over, .bool A.rd, .int .i64 A.bk, .slice A.qa A.qn A.qc] 29)).alloc (.cells #[.slice A.ta A.tn A.tc, .int .i64 A.room, .bool A.over, .bool A.rd, .int .i64 A.bk, .slice none 0 0, .int .i64 0] 80)).alloc
    (.cells #[.string A.dat, .slice A.sa A.sn A.sc, .bool A.early, .bool A.broken, .bool A.wr, .slice A.pa A.pn A.pc, .slice A.ta A.tn A.tc, .int .i64 A.room, .bool A.over, .bool A.rd, .int .i64 A.bk, .slice A.qa A.qn A.qc, .int .i64 0, .int .i64 0, .slice none 0 0, .slice none 0 0, .slice none 0 0, .slice none 0 0, .pointer (some ⟨w.heap.size + 1 + 1, 0, none⟩)] 84) = wq := ⟨_, rfl⟩
  have hbW : Blk wq (w.heap.size + 1 + 1 + 1) (A.cells ⟨none, 0, none, 0, none, 0, none, 0⟩ 0 0 0 0 (w.heap.size + 1 + 1)) := by
    rw [← hwq]
    have := Blk.new (((w.alloc (.cells #[.string A.dat, .slice A.sa A.sn A.sc, .bool A.early, .bool A.broken, .bool A.wr, .slice A.pa A.pn A.pc] 25)).alloc (.cells #[.slice A.ta A.tn A.tc, .int .i64 A.room, .bool A.over, .bool A.rd, .int .i64 A.bk, .slice A.qa A.qn A.qc] 29)).alloc (.cells #[.slice A.ta A.tn A.tc, .int .i64 A.room, .bool A.over, .bool A.rd, .int .i64 A.bk, .slice none 0 0, .int .i64 0] 80))
      #[.string A.dat, .slice A.sa A.sn A.sc, .bool A.early, .bool A.broken, .bool A.wr, .slice A.pa A.pn A.pc, .slice A.ta A.tn A.tc, .int .i64 A.room, .bool A.over, .bool A.rd, .int .i64 A.bk, .slice A.qa A.qn A.qc, .int .i64 0, .int .i64 0, .slice none 0 0, .slice none 0 0, .slice none 0 0, .slice none 0 0, .pointer (some ⟨w.heap.size + 1 + 1, 0, none⟩)] 84
    rw [sz_alloc, sz_alloc, sz_alloc] at this
    exact this
  have hbT : Blk wq (w.heap.size + 1 + 1) [.slice A.ta A.tn A.tc, .int .i64 A.room, .bool A.over, .bool A.rd, .int .i64 A.bk, .slice none 0 0, .int .i64 0] := by
    rw [← hwq]
    have := Blk.new ((w.alloc (.cells #[.string A.dat, .slice A.sa A.sn A.sc, .bool A.early, .bool A.broken, .bool A.wr, .slice A.pa A.pn A.pc] 25)).alloc (.cells #[.slice A.ta A.tn A.tc, .int .i64 A.room, .bool A.over, .bool A.rd, .int .i64 A.bk, .slice A.qa A.qn A.qc] 29))
      #[.slice A.ta A.tn A.tc, .int .i64 A.room, .bool A.over, .bool A.rd, .int .i64 A.bk, .slice none 0 0, .int .i64 0] 80
    rw [sz_alloc, sz_alloc] at this
    exact this.alloc _
  have hbD : Blk wq (w.heap.size + 1) A.dst := by
    rw [← hwq]
    have := Blk.new (w.alloc (.cells #[.string A.dat, .slice A.sa A.sn A.sc, .bool A.early, .bool A.broken, .bool A.wr, .slice A.pa A.pn A.pc] 25))
      #[.slice A.ta A.tn A.tc, .int .i64 A.room, .bool A.over, .bool A.rd, .int .i64 A.bk, .slice A.qa A.qn A.qc] 29
    rw [sz_alloc] at this
    exact (this.alloc _).alloc _
  have hbS : Blk wq w.heap.size A.src := by
    rw [← hwq]
    exact (((Blk.new w #[.string A.dat, .slice A.sa A.sn A.sc, .bool A.early, .bool A.broken, .bool A.wr, .slice A.pa A.pn A.pc] 25).alloc _).alloc _).alloc _
  have hqs : wq.heap.size = w.heap.size + 1 + 1 + 1 + 1 := by rw [← hwq, sz_alloc, sz_alloc, sz_alloc, sz_alloc]
  have hq0 : Step (fun _ => False) w r wq r := by rw [← hwq]; exact ((((Step.refl _ hbnd).alloc _).alloc _).alloc _).alloc _
  have hq1 : Step (· ≤ 20) w r wq ((r.give (w.heap.size + 1 + 1) 5).give (w.heap.size + 1 + 1 + 1) 0) :=
    ((hq0.mono (K' := (· ≤ 20)) (fun _ h => h.elim)).give (b := w.heap.size + 1 + 1) (k := 5) (by omega) hbT.lt (by omega)).give (b := w.heap.size + 1 + 1 + 1) (k := 0) (by omega) hbW.lt (by omega)
  have hq2 : Step (fun j => j = 5 ∨ j = 0) w r wq ((r.give (w.heap.size + 1 + 1) 5).give (w.heap.size + 1 + 1 + 1) 0) :=
    ((hq0.mono (K' := fun j => j = 5 ∨ j = 0) (fun _ h => h.elim)).give (b := w.heap.size + 1 + 1) (k := 5) (by omega) hbT.lt (.inl rfl)).give (b := w.heap.size + 1 + 1 + 1) (k := 0) (by omega) hbW.lt (.inr rfl)
  have hs0 : S1 A ps (freshT tzs A.room A.over) (w.heap.size + 1 + 1 + 1) (w.heap.size + 1 + 1) w.heap.size (w.heap.size + 1) w r 0 0 wq := by
    refine ⟨_, ⟨none, 0, none, 0, none, 0, none, 0⟩, fun _ => 0, hq1, Own.give_same _ _ _, hbW, ⟨?_, hbS⟩, ⟨?_, hbD⟩, ?_, ⟨Row.nil _ _ _, fun x hx => by cases hx⟩, ⟨Row.nil _ _ _, fun x hx => by cases hx⟩, ⟨Row.nil _ _ _, fun x hx => by cases hx⟩, ⟨Row.nil _ _ _, fun x hx => by cases hx⟩, fun q p hq => by omega⟩
    · rw [Own.give_other _ (by omega), Own.give_other _ (by omega)]; exact hbnd _ (Nat.le_refl _)
    · rw [Own.give_other _ (by omega), Own.give_other _ (by omega)]; exact hbnd _ (by omega)
    · exact ⟨A.ta, A.tn, A.tc, none, 0, 0, by rw [Own.give_other _ (by omega)]; exact Own.give_same _ _ _, hbT, hZ.step hq2 (fun _ h => by cases h), ⟨Row.nil _ _ _, fun x hx => by cases hx⟩, fun x hx => by cases hx⟩
  have hpc := hP.1.1.le
  have hpm := hP.1.1.max
  have hqc := hQ.1.1.le
  have hqm := hQ.1.1.max
  unfold maxLen at hpm hqm
  obtain ⟨i2, y0, y1, y2, y3⟩ := i64Info
  obtain ⟨ip, z0, z1, z2, z3⟩ := ptr82Info
  have HS0 := Lib.hid hs0
  have HP := Lib.hid hP
  have HQ := Lib.hid hQ
  have HBND := Lib.hid hbnd
  clear hs0 hq2 hq1 hq0 hqs hbS hbD hbT hbW hP hQ hZ hbnd
  go_enter Tryd.func34, Tryd.ntmps34
  go_wp2_with fail
  obtain ⟨wb, hwb⟩ : ∃ wb, w.heap.size + 1 + 1 + 1 = wb := ⟨_, rfl⟩
  obtain ⟨tb, htb⟩ : ∃ tb, w.heap.size + 1 + 1 = tb := ⟨_, rfl⟩
  obtain ⟨db, hdb⟩ : ∃ db, w.heap.size + 1 = db := ⟨_, rfl⟩
  obtain ⟨sb, hsb⟩ : ∃ sb, w.heap.size = sb := ⟨_, rfl⟩
  rw [hwb, htb, hdb, hsb] at HS0 ⊢
  clear hwq hwb htb hdb hsb
  go_loopw [6] (fun ix wr => ∃ i, i ≤ A.pn ∧ ix = .int .i64 ((i : Nat) : Int) ∧ S1 A ps (freshT tzs A.room A.over) wb tb sb db w r i 0 wr) (fun ix _ => A.pn - (intOf ix).toNat)
  case atStart => exact ⟨0, Nat.zero_le _, rfl, HS0.out⟩
  case round =>
    obtain ⟨i, hi, rfl, rx, R, bl, g, hs⟩ := hrel
    clear HS0
    have cS := hs.2.2.1.2.cell 5 rfl
    have cD := hs.2.2.2.1.2.cell 5 rfl
    have HG := Lib.hid g
    have HS := Lib.hid hs
    by_cases hlt : i < A.pn
    · obtain ⟨b, off, p, hpa, hb, hpk, hmem, hcell⟩ := (HP.out.step g).at hlt
      have hz := (HP.out.step g).2 p hmem
      have q0 := hcell 1 (by omega)
      have q2 := hcell 2 (by omega)
      have q3 := hcell 3 (by omega)
      have q4 := hcell 4 (by omega)
      have q5 := hcell 5 (by omega)
      have q6 := hcell 6 (by omega)
      simp only [Pp.cells, List.getElem?_cons_zero, List.getElem?_cons_succ] at q0 q2 q3 q4 q5 q6
      rw [hpa] at cS
      have hli : (i : Int) < A.pn := by omega
      have c14 := hs.2.1.cell 14 rfl
      have f14 := hs.2.1.free 14 (by simp [Sa.cells, Sa.src, Sa.dst])
      have HPK := Lib.hid hpk
      have HZZ := Lib.hid hz
      have HPA := Lib.hid hpa
      clear hpa
      clear hs g hcell hmem hpk hz
      go_wp2_with fail
      have hne : ∀ x, blockOf R.a1 = some x → x ≠ wb := fun x hx e => by subst e; have h1 := HS.out.2.2.2.2.2.1.2 x hx; have h2 := HS.out.1; rw [h2] at h1; cases h1
      have hbw := HS.out.2.1
      have hlt0 : i ≤ 10 := by omega
      have hwlt : wb < wr.heap.size := hbw.lt
      have HBW := Lib.hid hbw
      clear hbw
      go_cut [6] from 16 to 63 (fun s6 wx => s6 = .int .i64 ((i : Nat) : Int) ∧ RowKit.Hid (∃ r' a' c', Step (· ≤ 20) w r wx r' ∧ StartAt wx r' A ps wb tb sb db { R with a1 := a', c1 := c' } bl (i + 1) i i 0 (freshT tzs A.room A.over)))
      case first =>
        go_region_law (first | (refine step_append_row rfl _ _ 35 35 rfl 2 i2 (.int .i64 0) 1 8 Tryd.underlying35 y0 y1 y2 y3 rfl rfl ((HS.out.2.2.2.2.2.1.1.alloc _).drew) 1 [.int .i64 p.n] (Src.ofRd Tryd.underlying35 (Rd.one _ _ _).drew (by intro u hu; simp at hu; subst hu; rfl)) (by unfold maxLen; omega) (by omega) (Nat.zero_le _) ?_; intro a' c' w4 hrow hgr hbk; have HROW := Lib.hid hrow; have HGR := Lib.hid hgr; have HBKK := Lib.hid hbk; clear hrow hgr hbk; have BB2 := Lib.hid ((HBW.out.alloc _).drew.grown HGR.out (fun e => hne _ e rfl)); have c14'' := BB2.out.cell 14 rfl; have f14'' := BB2.out.free 14 (by simp [Sa.cells, Sa.src, Sa.dst])))
        all_goals
          go_wp2_with fail
          go_meet
          case rel =>
            have hc0 : Step (fun _ => False) wr rx (wr.alloc (.cells #[.int .i64 p.n] 2)).drew rx := ((Step.refl _ HG.out.bound).alloc _).drew
            obtain ⟨r', g1, h1⟩ := (HS.out.calm hc0).push1 HPK.out hc0.bound HROW.out HGR.out HBKK.out
            exact ⟨rfl, Lib.hid ⟨r', a', c', HG.out.trans ((hc0.mono (fun _ h => h.elim)).trans (g1.mono (fun j hj => by omega))), h1⟩⟩
      case rest =>
      obtain ⟨rfl, HX⟩ := hcut
      rename World => w5
      have HZ5 := Lib.hid (show ∀ r', Step (· ≤ 20) w r w5 r' → RdK w5 r' none 1 p.sa p.sn p.sc (I3 p.zs) ∧ w5.heap.size ≥ 0 from fun r' g => ⟨((HP.out.step g).2 p (List.mem_of_getElem? HPK.out)), Nat.zero_le _⟩)
      clear HS HG HZZ HBW hne hwlt c14 f14 q0 q2 q3 q4 q5 q6 cS cD
      obtain ⟨r5, a1', c1', g5, hs⟩ := HX.out
      clear HX
      have hPx := HP.out.step g5
      obtain ⟨b', off', p', hpa', hb', hpk', hmem', hcell⟩ := hPx.at hlt
      rw [HPA.out] at hpa'
      cases hpa'
      rw [HPK.out] at hpk'
      cases hpk'
      have q2 := hcell 2 (by omega)
      have q3 := hcell 3 (by omega)
      have q4 := hcell 4 (by omega)
      have q5 := hcell 5 (by omega)
      have q6 := hcell 6 (by omega)
      simp only [Pp.cells, List.getElem?_cons_zero, List.getElem?_cons_succ] at q2 q3 q4 q5 q6
      have cS := hs.2.2.1.2.cell 5 rfl
      rw [HPA.out] at cS
      have cS0 := hs.2.2.1.2.lt
      have c15 := hs.2.1.cell 15 rfl
      have f15 := hs.2.1.free 15 (by simp [Sa.cells, Sa.src, Sa.dst])
      have hne : ∀ x, blockOf R.a2 = some x → x ≠ wb := fun x hx e => by subst e; have h1 := hs.2.2.2.2.2.2.1.2 x hx; have h2 := hs.1; rw [h2] at h1; cases h1
      have hwlt : wb < w5.heap.size := hs.2.1.lt
      have HS := Lib.hid hs
      have HG := Lib.hid g5
      have HBW := Lib.hid hs.2.1
      have HZP := Lib.hid (HZ5.out r5 g5).1
      have hpp : ((w5.alloc (.cells #[.slice p.sa p.sn p.sc, .int .i64 p.room, .bool p.over, .bool p.rd, .int .i64 p.bk, .slice none 0 0, .int .i64 0] 80))).heap.size = w5.heap.size + 1 := sz_alloc _ _
      have HPP := Lib.hid hpp
      clear hs g5 hcell hmem' HZ5 hPx hpp
      go_wp2_with fail
      go_cut [6] from 16 to 63 (fun s6 wx => s6 = .int .i64 ((i : Nat) : Int) ∧ RowKit.Hid (∃ r' R' bl', Step (· ≤ 20) w r wx r' ∧ StartAt wx r' A ps wb tb sb db R' bl' (i + 1) (i + 1) i 0 (freshT tzs A.room A.over)))
      case first =>
        go_region_law (first | (refine step_append_row rfl _ _ 81 81 rfl 82 ip (.pointer none) 1 8 Tryd.underlying81 z0 z1 z2 z3 rfl rfl (((HS.out.2.2.2.2.2.2.1.1.alloc _).alloc _).drew) 1 [.pointer (some ⟨w5.heap.size, 0, none⟩)] (Src.ofRd Tryd.underlying81 (Rd.oneAt _ _ _ HPP.out.symm).drew (by intro u hu; simp at hu; subst hu; rfl)) (by unfold maxLen; omega) (by omega) (Nat.zero_le _) ?_; intro a' c' w4 hrow hgr hbk; have HROW := Lib.hid hrow; have HGR := Lib.hid hgr; have HBKK := Lib.hid hbk; clear hrow hgr hbk; have BB2 := Lib.hid (((HBW.out.alloc _).alloc _).drew.grown HGR.out (fun e => hne _ e rfl)); have c15'' := BB2.out.cell 15 rfl; have f15'' := BB2.out.free 15 (by simp [Sa.cells, Sa.src, Sa.dst])))
        all_goals
          go_wp2_with fail
          go_meet
          case rel =>
            have hc0 : Step (fun _ => False) w5 r5 ((w5.alloc (.cells #[.slice p.sa p.sn p.sc, .int .i64 p.room, .bool p.over, .bool p.rd, .int .i64 p.bk, .slice none 0 0, .int .i64 0] 80)).alloc (.cells #[.pointer (some ⟨w5.heap.size, 0, none⟩)] 82)).drew r5 := (((Step.refl _ HG.out.bound).alloc _).alloc _).drew
            have hB9 := ((Blk.new w5 #[.slice p.sa p.sn p.sc, .int .i64 p.room, .bool p.over, .bool p.rd, .int .i64 p.bk, .slice none 0 0, .int .i64 0] 80).alloc (.cells #[.pointer (some ⟨w5.heap.size, 0, none⟩)] 82)).drew
            obtain ⟨r', g1, h1⟩ := HS.out.push2 HPK.out HZP.out (Nat.le_refl _) hc0 hB9 HROW.out HGR.out HBKK.out
            exact ⟨rfl, Lib.hid ⟨r', _, _, HG.out.trans (g1.mono (fun j hj => by omega)), h1⟩⟩
      case rest =>
      obtain ⟨rfl, HX⟩ := hcut
      rename World => w6
      clear HS HG HZP HBW hne hwlt c15 f15 q2 q3 q4 q5 q6 cS HPP
      obtain ⟨r6, R6, bl6, g6, hs⟩ := HX.out
      clear HX
      have c16 := hs.2.1.cell 16 rfl
      have f16 := hs.2.1.free 16 (by simp [Sa.cells, Sa.src, Sa.dst])
      have hne : ∀ x, blockOf R6.a3 = some x → x ≠ wb := fun x hx e => by subst e; have h1 := hs.2.2.2.2.2.2.2.1.2 x hx; have h2 := hs.1; rw [h2] at h1; cases h1
      have HS := Lib.hid hs
      have HG := Lib.hid g6
      have HBW := Lib.hid hs.2.1
      clear hs g6
      go_wp2_with (at_builtin; go_must (refine wpList_append_row rfl _ _ 35 35 rfl 2 i2 (.int .i64 0) 1 8 Tryd.underlying35 y0 y1 y2 y3 rfl rfl (HS.out.2.2.2.2.2.2.2.1.1.alloc _) 1 [.int .i64 0] (Src.oneAt Tryd.underlying35 (.int .i64 0) _ rfl rfl) (by unfold maxLen; omega) (by omega) (Nat.zero_le _) ?_; intro a' c' w4 hrow hgr hbk; have HROW := Lib.hid hrow; have HGR := Lib.hid hgr; have HBKK := Lib.hid hbk; clear hrow hgr hbk; have BB2 := Lib.hid ((HBW.out.alloc _).grown HGR.out (fun e => hne _ e rfl)); have c16'' := BB2.out.cell 16 rfl; have f16'' := BB2.out.free 16 (by simp [Sa.cells, Sa.src, Sa.dst])))
      go_roundw
      case rel =>
        have hc0 : Step (fun _ => False) w6 r6 (w6.alloc (.cells #[.int .i64 0] 2)) r6 := (Step.refl _ HG.out.bound).alloc _
        obtain ⟨r', g1, h1⟩ := (HS.out.calm hc0).push3 hc0.bound HROW.out HGR.out HBKK.out
        exact ⟨i + 1, by omega, by go_num, r', _, _, HG.out.trans ((hc0.mono (fun _ h => h.elim)).trans (g1.mono (fun j hj => by omega))), h1⟩
      case measure => simp [intOf]; omega
    · obtain rfl : i = A.pn := by omega

      have HS9 := Lib.hid (show S1 A ps (freshT tzs A.room A.over) wb tb sb db w r A.pn 0 wr from ⟨rx, R, bl, g, hs⟩)
      clear hs g HS HG
      have hni : ¬ ((A.pn : Int) < A.pn) := by omega
      go_wp2_with fail
      rename World => w9
      go_loopw [7] (fun ix wr => ∃ i, i ≤ A.qn ∧ ix = .int .i64 ((i : Nat) : Int) ∧ S1 A ps (freshT tzs A.room A.over) wb tb sb db w r A.pn i wr) (fun ix _ => A.qn - (intOf ix).toNat)
      case atStart => exact ⟨0, Nat.zero_le _, rfl, HS9.out⟩
      case round =>
        obtain ⟨j, hj, rfl, rx, R, bl, g, hs⟩ := hrel
        clear HS9
        have cD := hs.2.2.2.1.2.cell 5 rfl
        by_cases hlt : j < A.qn
        · have hlj : (j : Int) < A.qn := by omega
          have c17 := hs.2.1.cell 17 rfl
          have f17 := hs.2.1.free 17 (by simp [Sa.cells, Sa.src, Sa.dst])
          have hne : ∀ x, blockOf R.a4 = some x → x ≠ wb := fun x hx e => by subst e; have h1 := hs.2.2.2.2.2.2.2.2.1.2 x hx; have h2 := hs.1; rw [h2] at h1; cases h1
          have HS := Lib.hid hs
          have HG := Lib.hid g
          have HBW := Lib.hid hs.2.1
          clear hs g
          go_wp2_with (at_builtin; go_must (refine wpList_append_row rfl _ _ 35 35 rfl 2 i2 (.int .i64 0) 1 8 Tryd.underlying35 y0 y1 y2 y3 rfl rfl (HS.out.2.2.2.2.2.2.2.2.1.1.alloc _) 1 [.int .i64 0] (Src.oneAt Tryd.underlying35 (.int .i64 0) _ rfl rfl) (by unfold maxLen; omega) (by omega) (Nat.zero_le _) ?_; intro a' c' w4 hrow hgr hbk; have HROW := Lib.hid hrow; have HGR := Lib.hid hgr; have HBKK := Lib.hid hbk; clear hrow hgr hbk; have BB2 := Lib.hid ((HBW.out.alloc _).grown HGR.out (fun e => hne _ e rfl)); have c17'' := BB2.out.cell 17 rfl; have f17'' := BB2.out.free 17 (by simp [Sa.cells, Sa.src, Sa.dst])))
          go_roundw
          case rel =>
            have hc0 : Step (fun _ => False) wr rx (wr.alloc (.cells #[.int .i64 0] 2)) rx := (Step.refl _ HG.out.bound).alloc _
            obtain ⟨r', g1, h1⟩ := (HS.out.calm hc0).push4 hc0.bound HROW.out HGR.out HBKK.out
            exact ⟨j + 1, by omega, by go_num, r', _, _, HG.out.trans ((hc0.mono (fun _ h => h.elim)).trans (g1.mono (fun j hj => by omega))), h1⟩
          case measure => simp [intOf]; omega
        · obtain rfl : j = A.qn := by omega
          have HS := Lib.hid hs
          have HG := Lib.hid g
          clear hs g
          have hnj : ¬ ((A.qn : Int) < A.qn) := by omega
          go_wp2
          refine bodyPost_ret (v := .pointer (some ⟨wb, 0, none⟩)) (by simp [results, Tryd.f34, go_sem]) rfl ?_
          exact ⟨wb, rx, tb, sb, db, R, bl, rfl, HG.out, HS.out⟩
end Go.Proofs.YtigfgdefgnahpaaDoor
