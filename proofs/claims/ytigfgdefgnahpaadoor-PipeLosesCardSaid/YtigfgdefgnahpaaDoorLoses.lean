/-
  The walk of PipeLoses. Not a statement of the seat.
-/
import Derived.Test.YtigfgdefgnahpaaDoorCopies
import Derived.Test.YtigfgdefgnahpaaDoorLosesPure
import Derived.Deep.CutRange
namespace Go.Proofs.YtigfgdefgnahpaaDoor
open Go.RowKit

theorem Blk.set9 {w : World} {b : Nat} {x0 x1 x2 x3 x4 x5 x6 x7 x8 : Value} (h : Blk w b [x0, x1, x2, x3, x4, x5, x6, x7, x8]) (v0 v1 v2 v3 v4 v5 v6 v7 v8 : Value) :
    Blk (((((((((w.setCell ⟨b, 0, none⟩ v0).setCell ⟨b, 1, none⟩ v1).setCell ⟨b, 2, none⟩ v2).setCell ⟨b, 3, none⟩ v3).setCell ⟨b, 4, none⟩ v4).setCell ⟨b, 5, none⟩ v5).setCell ⟨b, 6, none⟩ v6).setCell ⟨b, 7, none⟩ v7).setCell ⟨b, 8, none⟩ v8) b [v0, v1, v2, v3, v4, v5, v6, v7, v8] := by
  have h0 : Blk _ b [v0, x1, x2, x3, x4, x5, x6, x7, x8] := h.set (j := 0) v0
  have h1 : Blk _ b [v0, v1, x2, x3, x4, x5, x6, x7, x8] := h0.set (j := 1) v1
  have h2 : Blk _ b [v0, v1, v2, x3, x4, x5, x6, x7, x8] := h1.set (j := 2) v2
  have h3 : Blk _ b [v0, v1, v2, v3, x4, x5, x6, x7, x8] := h2.set (j := 3) v3
  have h4 : Blk _ b [v0, v1, v2, v3, v4, x5, x6, x7, x8] := h3.set (j := 4) v4
  have h5 : Blk _ b [v0, v1, v2, v3, v4, v5, x6, x7, x8] := h4.set (j := 5) v5
  have h6 : Blk _ b [v0, v1, v2, v3, v4, v5, v6, x7, x8] := h5.set (j := 6) v6
  have h7 : Blk _ b [v0, v1, v2, v3, v4, v5, v6, v7, x8] := h6.set (j := 7) v7
  exact h7.set (j := 8) v8
theorem Below.set9 {N : Nat} {v w : World} {b : Nat} (h : Below N v w) (hb : N ≤ b) (v0 v1 v2 v3 v4 v5 v6 v7 v8 : Value) :
    Below N v (((((((((w.setCell ⟨b, 0, none⟩ v0).setCell ⟨b, 1, none⟩ v1).setCell ⟨b, 2, none⟩ v2).setCell ⟨b, 3, none⟩ v3).setCell ⟨b, 4, none⟩ v4).setCell ⟨b, 5, none⟩ v5).setCell ⟨b, 6, none⟩ v6).setCell ⟨b, 7, none⟩ v7).setCell ⟨b, 8, none⟩ v8) :=
  ((((((((h.setCell hb v0).setCell hb v1).setCell hb v2).setCell hb v3).setCell hb v4).setCell hb v5).setCell hb v6).setCell hb v7).setCell hb v8
set_option maxRecDepth 100000 in
set_option maxHeartbeats 8000000 in
theorem losesT {A : Sa} {zs tzs : List Int} {ps qs : List Pp} {eb : Nat} {n : Int} {w : World} (hA : ArgsAt w A zs tzs ps qs) (hL : Laid eb w) (hn : ∀ x ∈ ps, -9223372036854775808 ≤ x.n ∧ x.n ≤ 9223372036854775807) (hl : ∀ x ∈ ps, x.zs.length = x.sn) :
    Calls Tryd.prog 5 #[.agg #[.string A.dat, .slice A.sa A.sn A.sc, .bool A.early, .bool A.broken, .bool A.wr, .slice A.pa A.pn A.pc], .agg #[.slice A.ta A.tn A.tc, .int .i64 A.room, .bool A.over, .bool A.rd, .int .i64 A.bk, .slice A.qa A.qn A.qc], .int .i64 n] w (RV w (.bool true)) := by
  obtain ⟨wq, hwq⟩ : ∃ wq, (w.alloc (.cells #[.string A.dat, .slice A.sa A.sn A.sc, .bool A.early, .bool A.broken, .bool A.wr, .slice A.pa A.pn A.pc] 25)).alloc (.cells #[.slice A.ta A.tn A.tc, .int .i64 A.room, .bool A.over, .bool A.rd, .int .i64 A.bk, .slice A.qa A.qn A.qc] 29) = wq := ⟨_, rfl⟩
  have hbw : Below w.heap.size w wq := by rw [← hwq]; exact ((Below.refl _ w).alloc (Nat.le_refl _) _).alloc (by rw [sz_alloc]; omega) _
  have hb1 : Blk wq w.heap.size A.src := by rw [← hwq]; exact (Blk.new w #[.string A.dat, .slice A.sa A.sn A.sc, .bool A.early, .bool A.broken, .bool A.wr, .slice A.pa A.pn A.pc] 25).alloc _
  have hb2 : Blk wq (w.heap.size + 1) A.dst := by
    rw [← hwq]
    have := Blk.new (w.alloc (.cells #[.string A.dat, .slice A.sa A.sn A.sc, .bool A.early, .bool A.broken, .bool A.wr, .slice A.pa A.pn A.pc] 25)) #[.slice A.ta A.tn A.tc, .int .i64 A.room, .bool A.over, .bool A.rd, .int .i64 A.bk, .slice A.qa A.qn A.qc] 29
    rw [sz_alloc] at this
    exact this
  have hbox : Boxed w.heap.size (w.heap.size + 1) A wq := ⟨⟨hb1.cell 0 rfl, hb1.cell 1 rfl, hb1.cell 2 rfl, hb1.cell 3 rfl, hb1.cell 4 rfl, hb1.cell 5 rfl⟩, ⟨hb2.cell 0 rfl, hb2.cell 1 rfl, hb2.cell 2 rfl, hb2.cell 3 rfl, hb2.cell 4 rfl, hb2.cell 5 rfl⟩⟩
  have HA := Lib.hid (hA.below hbw)
  have HLQ := Lib.hid (hL.below hbw)
  have HBW := Lib.hid hbw
  have HBOX := Lib.hid hbox
  have HNN := Lib.hid (And.intro hn hl)
  obtain ⟨⟨c0, c1, c2, c3, c4, c5⟩, ⟨d0, d1, d2, d3, d4, d5⟩⟩ := hbox
  clear hA hbw hb1 hb2 hL hn hl
  cases hf : fitB A zs tzs ps qs
  · have HF := Lib.hid hf
    clear hf
    go_enter Tryd.func5, Tryd.ntmps5
    go_wp2_with fail
    refine (fitT HA.out HF.out).mono ?_
    rintro e w1 ⟨rfl, hb⟩
    have HB := Lib.hid (HBW.out.trans (hb.mono HBW.out.size))
    have HL1 := Lib.hid (HLQ.out.below hb)
    clear hb
    go_wp2_with fail
    refine (awakeT HL1.out).mono ?_
    rintro e w2 ⟨rfl, hb⟩
    have HB2 := Lib.hid (HB.out.trans (hb.mono HB.out.size))
    clear hb
    go_wp2
    go_ret
    exact ⟨rfl, HB2.out⟩
  · have HF := Lib.hid hf
    have hf2 : srcFit A.dat.size zs ps = true ∧ sinkFit tzs A.room A.rd A.bk qs = true := by unfold fitB at hf; simpa using hf
    have hfa : FitA A.dat.size zs ps := ⟨hf2.1, HNN.out.1, HNN.out.2⟩
    have hsz := sizeM_le n
    obtain ⟨m, hm⟩ : ∃ m, sizeM n = m := ⟨_, rfl⟩
    rw [hm] at hsz
    have hsT : ∀ wx : World, Calls Tryd.prog 15 #[.int .i64 n] wx (fun e w' => e = .returned (.int .i64 (m : Nat)) ∧ w' = wx) := fun wx => by rw [← hm]; exact sizeT n wx
    obtain ⟨R, hR⟩ : ∃ R, resOf A zs tzs ps qs m = R := ⟨_, rfl⟩
    have hdone : Done A.dat.data.toList A.over R.1 ∧ R.1.s.data = A.dat.data.toList := by
      have hd : A.dat.data.toList.length = A.dat.size := Array.length_toList
      have h' : FitA A.dat.data.toList.length zs ps := by rw [hd]; exact hfa
      obtain ⟨p, k1, k2, _, _, _, k6⟩ := fit_ok (over := A.over) A.early A.broken h' hf2.2
      rw [← hR]
      exact copyM_done (c := cpOf A zs tzs ps qs) k1 ⟨rfl, rfl⟩ rfl hsz.1 (fun hh => by have := k6 hh; show 1 ≤ A.bk.toNat; omega) k2
    clear hf
    go_enter Tryd.func5, Tryd.ntmps5
    go_wp2_with fail
    refine (fitT HA.out HF.out).mono ?_
    rintro e w1 ⟨rfl, hb⟩
    have HB := Lib.hid (HBW.out.trans (hb.mono HBW.out.size))
    have hA1 := HA.out.below hb
    have hL1 := HLQ.out.below hb
    have hbox1 := HBOX.out.below hb
    have hc14 : ∀ wx : World, Below w1.heap.size w1 wx → Calls Tryd.prog 14 #[.agg #[.string A.dat, .slice A.sa A.sn A.sc, .bool A.early, .bool A.broken, .bool A.wr, .slice A.pa A.pn A.pc], .agg #[.slice A.ta A.tn A.tc, .int .i64 A.room, .bool A.over, .bool A.rd, .int .i64 A.bk, .slice A.qa A.qn A.qc], .int .i64 m] wx (fun e' w' =>
        ∃ a1 n1 c1 a2 n2 c2, e' = .returned (.agg #[.int .i64 (R.1.tot : Nat), .int .i64 R.2.1, .int .i64 (R.2.2.toNat : Nat), .string (bytesS R.1.t), .slice a1 n1 c1, .slice a2 n2 c2, .int .i64 (R.1.s.k : Nat), .int .i64 (R.1.t.k : Nat), .int .i64 (R.1.s.left : Nat)]) ∧ Below wx.heap.size wx w' ∧ Below w1.heap.size w1 w') := fun wx hx =>
      (copyNV (hA1.below hx) (hL1.below hx) hfa hf2.2 hsz.1 hsz.2 hR).mono (fun e' w' ht => by
        obtain ⟨v, rfl, hb', a1, n1, c1, a2, n2, c2, rfl, _, _⟩ := ht
        exact ⟨a1, n1, c1, a2, n2, c2, rfl, hb', hx.trans (hb'.mono hx.size)⟩)
    have hc14d := hc14 w1.drew (Below.refl _ _).drew
    have hc14z := hc14 ((w1.alloc (.cells #[.int .i64 0, .int .i64 0, .int .i64 0, .string ⟨#[]⟩, .slice none 0 0, .slice none 0 0, .int .i64 0, .int .i64 0, .int .i64 0] 37)).drew) ((Below.refl _ w1).alloc (Nat.le_refl _) _).drew
    have hblz : ∀ wA : World, Below ((w1.alloc (.cells #[.int .i64 0, .int .i64 0, .int .i64 0, .string ⟨#[]⟩, .slice none 0 0, .slice none 0 0, .int .i64 0, .int .i64 0, .int .i64 0] 37)).drew).heap.size ((w1.alloc (.cells #[.int .i64 0, .int .i64 0, .int .i64 0, .string ⟨#[]⟩, .slice none 0 0, .slice none 0 0, .int .i64 0, .int .i64 0, .int .i64 0] 37)).drew) wA → Blk wA w1.heap.size [.int .i64 0, .int .i64 0, .int .i64 0, .string ⟨#[]⟩, .slice none 0 0, .slice none 0 0, .int .i64 0, .int .i64 0, .int .i64 0] ∧ wA.cell? ⟨w1.heap.size, 0, none⟩ = some (.int .i64 0) ∧ wA.cell? ⟨w1.heap.size, 1, none⟩ = some (.int .i64 0) ∧ wA.cell? ⟨w1.heap.size, 2, none⟩ = some (.int .i64 0) ∧ wA.cell? ⟨w1.heap.size, 3, none⟩ = some (.string ⟨#[]⟩) ∧ wA.cell? ⟨w1.heap.size, 4, none⟩ = some (.slice none 0 0) ∧ wA.cell? ⟨w1.heap.size, 5, none⟩ = some (.slice none 0 0) ∧ wA.cell? ⟨w1.heap.size, 6, none⟩ = some (.int .i64 0) ∧ wA.cell? ⟨w1.heap.size, 7, none⟩ = some (.int .i64 0) ∧ wA.cell? ⟨w1.heap.size, 8, none⟩ = some (.int .i64 0) ∧ wA.frozen? ⟨w1.heap.size, 0, none⟩ = false ∧ wA.frozen? ⟨w1.heap.size, 1, none⟩ = false ∧ wA.frozen? ⟨w1.heap.size, 2, none⟩ = false ∧ wA.frozen? ⟨w1.heap.size, 3, none⟩ = false ∧ wA.frozen? ⟨w1.heap.size, 4, none⟩ = false ∧ wA.frozen? ⟨w1.heap.size, 5, none⟩ = false ∧ wA.frozen? ⟨w1.heap.size, 6, none⟩ = false ∧ wA.frozen? ⟨w1.heap.size, 7, none⟩ = false ∧ wA.frozen? ⟨w1.heap.size, 8, none⟩ = false := fun wA hbx => by
      have hz : Blk wA w1.heap.size [.int .i64 0, .int .i64 0, .int .i64 0, .string ⟨#[]⟩, .slice none 0 0, .slice none 0 0, .int .i64 0, .int .i64 0, .int .i64 0] := ((Blk.new w1 #[.int .i64 0, .int .i64 0, .int .i64 0, .string ⟨#[]⟩, .slice none 0 0, .slice none 0 0, .int .i64 0, .int .i64 0, .int .i64 0] 37).drew).below hbx
      exact ⟨hz, hz.cell 0 rfl, hz.cell 1 rfl, hz.cell 2 rfl, hz.cell 3 rfl, hz.cell 4 rfl, hz.cell 5 rfl, hz.cell 6 rfl, hz.cell 7 rfl, hz.cell 8 rfl, hz.free 0 (by simp), hz.free 1 (by simp), hz.free 2 (by simp), hz.free 3 (by simp), hz.free 4 (by simp), hz.free 5 (by simp), hz.free 6 (by simp), hz.free 7 (by simp), hz.free 8 (by simp)⟩
    have hkeep : ∀ wx : World, Below w1.heap.size w1 wx → Boxed w.heap.size (w.heap.size + 1) A wx := fun wx hx => hbox1.below hx
    have hawk : ∀ wx : World, Below w1.heap.size w1 wx → Calls Tryd.prog 12 #[] wx (RV wx (.bool true)) := fun wx hx => awakeT (hL1.below hx)
    have HST := Lib.hid hsT
    have HC14D := Lib.hid hc14d
    have HC14Z := Lib.hid hc14z
    have HBLZ := Lib.hid hblz
    have HKEEP := Lib.hid hkeep
    have HAWK := Lib.hid hawk
    have HDONE := Lib.hid hdone
    clear hb hA1 hL1 hbox1 hc14 hc14d hc14z hblz hkeep hawk hsT hfa hf2 hm hR c0 c1 c2 c3 c4 c5 d0 d1 d2 d3 d4 d5 hwq hdone
    unfold Boxed at HKEEP
    go_wp2_with fail
    obtain ⟨tot, htot⟩ : ∃ tot, R.1.tot = tot := ⟨_, rfl⟩
    obtain ⟨lf, hlf⟩ : ∃ lf, R.1.s.left = lf := ⟨_, rfl⟩
    obtain ⟨d, hd⟩ : ∃ d, bytesS R.1.t = d := ⟨_, rfl⟩
    obtain ⟨ts, hts⟩ : ∃ ts, R.2.2.toNat = ts := ⟨_, rfl⟩
    rw [htot, hlf, hd, hts] at HC14D HC14Z
    go_cut [7] from 8 (fun s7 wx => ∃ cb a1 n1 c1 a2 n2 c2, s7 = .pointer (some ⟨cb, 0, none⟩) ∧ Below w1.heap.size w1 wx ∧ Blk wx cb [.int .i64 (tot : Nat), .int .i64 R.2.1, .int .i64 (ts : Nat), .string d, .slice a1 n1 c1, .slice a2 n2 c2, .int .i64 (R.1.s.k : Nat), .int .i64 (R.1.t.k : Nat), .int .i64 (lf : Nat)])
    case first =>
      go_region_held3 (fun wx : World => (wx.cell? ⟨w.heap.size, 0, none⟩ = some (.string A.dat) ∧ wx.cell? ⟨w.heap.size, 1, none⟩ = some (.slice A.sa A.sn A.sc) ∧ wx.cell? ⟨w.heap.size, 2, none⟩ = some (.bool A.early) ∧ wx.cell? ⟨w.heap.size, 3, none⟩ = some (.bool A.broken) ∧ wx.cell? ⟨w.heap.size, 4, none⟩ = some (.bool A.wr) ∧ wx.cell? ⟨w.heap.size, 5, none⟩ = some (.slice A.pa A.pn A.pc)) ∧
        (wx.cell? ⟨w.heap.size + 1, 0, none⟩ = some (.slice A.ta A.tn A.tc) ∧ wx.cell? ⟨w.heap.size + 1, 1, none⟩ = some (.int .i64 A.room) ∧ wx.cell? ⟨w.heap.size + 1, 2, none⟩ = some (.bool A.over) ∧ wx.cell? ⟨w.heap.size + 1, 3, none⟩ = some (.bool A.rd) ∧ wx.cell? ⟨w.heap.size + 1, 4, none⟩ = some (.int .i64 A.bk) ∧ wx.cell? ⟨w.heap.size + 1, 5, none⟩ = some (.slice A.qa A.qn A.qc)))
        (first | (refine HKEEP.out _ ?_; repeat (first | refine Below.setCell ?_ (by first | (simp; done) | (simp; omega) | (have := HBA.out.size; simp; omega)) _ | refine Below.alloc ?_ (by first | (simp; done) | (simp; omega) | (have := HBA.out.size; simp; omega)) _ | refine Below.drew ?_ | exact HBA.out | exact Below.refl _ _)))
        (first
          | (go_simp; go_at_call 15; refine (HST.out _).mono ?_; rintro e15 w15 ⟨rfl, rfl⟩)
          | (go_simp; go_at_call 14; refine (HC14D.out).mono ?_; rintro eA wA ⟨a1, n1, c1, a2, n2, c2, rfl, hbx, hbA⟩; have HBA := Lib.hid hbA; clear hbx hbA)
          | (go_simp; go_at_call 14; refine (HC14Z.out).mono ?_; rintro eA wA ⟨a1, n1, c1, a2, n2, c2, rfl, hbx, hbA⟩; have HBA := Lib.hid hbA; obtain ⟨hz, y0, y1, y2, y3, y4, y5, y6, y7, y8, fz0, fz1, fz2, fz3, fz4, fz5, fz6, fz7, fz8⟩ := HBLZ.out wA hbx; have HZ := Lib.hid hz; clear hz hbx hbA))
      all_goals
        go_wp2_with fail
        go_meet
        case rel =>
          (first
            | (refine ⟨_, a1, n1, c1, a2, n2, c2, rfl, ?_, ?_⟩
               · with_reducible exact Below.alloc HBA.out HBA.out.size _
               · with_reducible exact Blk.new _ _ _)
            | (refine ⟨_, a1, n1, c1, a2, n2, c2, rfl, ?_, ?_⟩
               · exact Below.set9 HBA.out (Nat.le_refl _) _ _ _ _ _ _ _ _ _
               · exact Blk.set9 HZ.out _ _ _ _ _ _ _ _ _))
    case rest =>
    obtain ⟨cb, a1, n1, c1, a2, n2, c2, rfl, hbw, hB⟩ := hcut
    obtain ⟨⟨q0, q1, q2, q3, q4, q5⟩, ⟨r0, r1, r2, r3, r4, r5⟩⟩ := HKEEP.out _ hbw
    have HBW6 := Lib.hid hbw
    have HB6 := Lib.hid hB
    have HAW6 := Lib.hid (HAWK.out _ hbw)
    have g0 := hB.cell 0 rfl
    have g3 := hB.cell 3 rfl
    have g8 := hB.cell 8 rfl
    have hds : bytesS R.1.t = d := hd
    obtain ⟨d1, d2⟩ := HDONE.out
    have hdl : d.data.toList = R.1.t.has := by rw [← hds]; simp [bytesS]
    have hle : d.size ≤ A.dat.size := by
      have h1 := d1.le
      rw [← hdl] at h1
      simpa using h1
    have hex : A.dat.extract 0 d.size = d := by
      have h1 := d1.has
      rw [← hdl] at h1
      have h2 : d.data.toList.length = d.size := by simp
      rw [h2] at h1
      apply ByteArray.ext
      apply Array.ext'
      rw [h1]
      simp [ByteArray.data_extract, Array.toList_extract, List.extract_eq_take_drop]
    have hgt : decide ((d.size : Int) > A.dat.size) = false := by simp; omega
    have hleI : ((d.size : Int) ≤ A.dat.size) := by omega
    have hlfl : lf ≤ A.dat.size := by rw [← hlf]; unfold Sc.left; rw [d2]; simp
    have htt : A.over = true ∨ tot = d.size := by
      rcases d1.tot with h | h
      · exact .inl h
      · right
        rw [← htot, h, ← hdl]
        simp
    clear hbw hB HC14D HC14Z HBLZ HKEEP
    go_wp2_with fail
    go_quiet (fail)
    go_wp2_with fail
    all_goals first
      | (exfalso; omega)
      | (exfalso; rcases htt with h | h; exact absurd h (by assumption); omega)
      | skip
    all_goals
      refine (HAWK.out _ (HBW6.out.trans ((below_drewN _ _ _).mono HBW6.out.size))).mono ?_
      rintro e7 w7 ⟨rfl, hb7⟩
      go_wp2
      go_ret
      have h8 := HBW6.out.trans ((below_drewN _ _ nq).mono HBW6.out.size)
      exact ⟨rfl, HB.out.trans ((h8.trans (hb7.mono h8.size)).mono HB.out.size)⟩
end Go.Proofs.YtigfgdefgnahpaaDoor
