/-
  The walk of PipeWays. Not a statement of the seat.
-/
import Derived.Test.YtigfgdefgnahpaaDoorCopies
import Derived.Test.YtigfgdefgnahpaaDoorLosesPure
import Derived.Deep.CutRange
namespace Go.Proofs.YtigfgdefgnahpaaDoor
open Go.RowKit

theorem sinkFit_turn {tzs : List Int} {room bk bk' : Int} {rd rd' : Bool} {qs : List Pp} (h : sinkFit tzs room rd bk qs = true) (hb : bulkB rd' bk' = true) : sinkFit tzs room rd' bk' qs = true := by
  unfold sinkFit innerB at *
  simp only [Bool.and_eq_true] at h ⊢
  exact ⟨⟨⟨hb, h.1.1.2⟩, h.1.2⟩, h.2⟩
/-- all has come through -/
def AllP (A : Sa) (w : World) (e' : Ending) (w' : World) : Prop :=
  ∃ (way k wk : Nat) (a1 : Option Addr) (n1 c1 : Nat) (a2 : Option Addr) (n2 c2 : Nat), e' = .returned (.agg #[.int .i64 (A.dat.size : Nat), .int .i64 0, .int .i64 way, .string A.dat, .slice a1 n1 c1, .slice a2 n2 c2, .int .i64 k, .int .i64 wk, .int .i64 0]) ∧ Below w.heap.size w w'
theorem waysC {A : Sa} {zs tzs : List Int} {ps qs : List Pp} {eb m : Nat} {w : World} (hA : ArgsAt w A zs tzs ps qs) (hL : Laid eb w) (h : FitA A.dat.size zs ps) (hs : sinkFit tzs A.room A.rd A.bk qs = true) (hpl : plainB A ps = true) (hm1 : 1 ≤ m) (hm2 : m ≤ 65535) :
    Calls Tryd.prog 14 #[.agg A.src.toArray, .agg A.dst.toArray, .int .i64 m] w (AllP A w) := by
  have hd : A.dat.data.toList.length = A.dat.size := Array.length_toList
  have h' : FitA A.dat.data.toList.length zs ps := by rw [hd]; exact h
  obtain ⟨p, k1, k2, k3, k4, k5, k6⟩ := fit_ok (over := A.over) A.early A.broken h' hs
  unfold plainB opsB restB at hpl
  simp only [Bool.and_eq_true, List.all_eq_true, Bool.not_eq_true', beq_eq_false_iff_ne, beq_iff_eq, decide_eq_true_eq] at hpl
  obtain ⟨h1, ⟨⟨h2, h3⟩, h4⟩, h5⟩ := hpl
  have htl := hA.t.1.len
  have hz0 : tzs.length = 0 := by simp [I3] at htl; omega
  have hall := copyM_plain (sh := ⟨A.wr, fun _ => 0⟩) (sk := ⟨A.rd, fun _ => 0⟩) (bulk := A.bk.toNat) (m := m) (F := 4400001) (c := cpOf A zs tzs ps qs) k1 ⟨rfl, rfl⟩ ⟨fun x hx => by
      unfold cpOf upto at hx
      simp only [List.mem_reverse, List.mem_map] at hx
      obtain ⟨y, hy, rfl⟩ := hx
      have := h1 y (List.mem_of_mem_take hy)
      exact this, h2, hz0, h4, h5⟩ rfl hm1 (fun hh => by have := k6 hh; omega) k2
  obtain ⟨a1, a2, a3, a4⟩ := hall
  refine (copyNV hA hL h hs hm1 hm2 rfl).mono ?_
  rintro e' w' ⟨v, rfl, hb, s1, m1, d1, s2, m2, d2, rfl, _, _⟩
  have b1 : bytesS (resOf A zs tzs ps qs m).1.t = A.dat := by
    unfold bytesS resOf
    rw [a1]
    show (⟨A.dat.data.toList.toArray⟩ : ByteArray) = A.dat
    simp
  have b2 : (resOf A zs tzs ps qs m).1.tot = A.dat.size := by
    unfold resOf
    rw [a2]; exact hd
  have b3 : (resOf A zs tzs ps qs m).2.1 = 0 := a3
  have b4 : (resOf A zs tzs ps qs m).1.s.left = 0 := a4
  rw [b1, b2, b3, b4]
  exact ⟨_, _, _, _, _, _, _, _, _, rfl, hb⟩

set_option maxRecDepth 100000 in
set_option maxHeartbeats 8000000 in
theorem waysT {A : Sa} {zs tzs : List Int} {ps qs : List Pp} {eb : Nat} {n bulk : Int} {w : World} (hA : ArgsAt w A zs tzs ps qs) (hL : Laid eb w) (hn : ∀ x ∈ ps, -9223372036854775808 ≤ x.n ∧ x.n ≤ 9223372036854775807) (hl : ∀ x ∈ ps, x.zs.length = x.sn) :
    Calls Tryd.prog 4 #[.agg #[.string A.dat, .slice A.sa A.sn A.sc, .bool A.early, .bool A.broken, .bool A.wr, .slice A.pa A.pn A.pc], .agg #[.slice A.ta A.tn A.tc, .int .i64 A.room, .bool A.over, .bool A.rd, .int .i64 A.bk, .slice A.qa A.qn A.qc], .int .i64 n, .int .i64 bulk] w (RV w (.bool true)) := by
  obtain ⟨wq, hwq⟩ : ∃ wq, (w.alloc (.cells #[.string A.dat, .slice A.sa A.sn A.sc, .bool A.early, .bool A.broken, .bool A.wr, .slice A.pa A.pn A.pc] 25)).alloc (.cells #[.slice A.ta A.tn A.tc, .int .i64 A.room, .bool A.over, .bool A.rd, .int .i64 A.bk, .slice A.qa A.qn A.qc] 29) = wq := ⟨_, rfl⟩
  have hbw : Below w.heap.size w wq := by rw [← hwq]; exact ((Below.refl _ w).alloc (Nat.le_refl _) _).alloc (by rw [sz_alloc]; omega) _
  have hb1 : Blk wq w.heap.size A.src := by rw [← hwq]; exact (Blk.new w #[.string A.dat, .slice A.sa A.sn A.sc, .bool A.early, .bool A.broken, .bool A.wr, .slice A.pa A.pn A.pc] 25).alloc _
  have hb2 : Blk wq (w.heap.size + 1) A.dst := by
    rw [← hwq]
    have := Blk.new (w.alloc (.cells #[.string A.dat, .slice A.sa A.sn A.sc, .bool A.early, .bool A.broken, .bool A.wr, .slice A.pa A.pn A.pc] 25)) #[.slice A.ta A.tn A.tc, .int .i64 A.room, .bool A.over, .bool A.rd, .int .i64 A.bk, .slice A.qa A.qn A.qc] 29
    rw [sz_alloc] at this
    exact this
  have hbox : Boxed w.heap.size (w.heap.size + 1) A wq := ⟨⟨hb1.cell 0 rfl, hb1.cell 1 rfl, hb1.cell 2 rfl, hb1.cell 3 rfl, hb1.cell 4 rfl, hb1.cell 5 rfl⟩, ⟨hb2.cell 0 rfl, hb2.cell 1 rfl, hb2.cell 2 rfl, hb2.cell 3 rfl, hb2.cell 4 rfl, hb2.cell 5 rfl⟩⟩
  have hAq := hA.below hbw
  have hLq := hL.below hbw
  have hkeep : ∀ wx : World, Below wq.heap.size wq wx → Boxed w.heap.size (w.heap.size + 1) A wx := fun wx hx => hbox.below hx
  have hawk : ∀ wx : World, Below wq.heap.size wq wx → Calls Tryd.prog 12 #[] wx (RV wx (.bool true)) := fun wx hx => awakeT (hLq.below hx)
  have HKEEP := Lib.hid hkeep
  have HAWK := Lib.hid hawk
  have HA := Lib.hid hAq
  have HLQ := Lib.hid hLq
  have HBW := Lib.hid hbw
  have HWQ := Lib.hid hwq
  have HNN := Lib.hid (And.intro hn hl)
  obtain ⟨⟨c0, c1, c2, c3, c4, c5⟩, ⟨d0, d1, d2, d3, d4, d5⟩⟩ := hbox
  clear hA hbw hb1 hb2 hL hn hl hAq hLq hkeep hawk hwq
  have h17 : ∀ (v : Bool) (wx : World), plainB A ps = v → Below wq.heap.size wq wx → Calls Tryd.prog 17 #[.agg #[.string A.dat, .slice A.sa A.sn A.sc, .bool A.early, .bool A.broken, .bool A.wr, .slice A.pa A.pn A.pc], .agg #[.slice A.ta A.tn A.tc, .int .i64 A.room, .bool A.over, .bool A.rd, .int .i64 A.bk, .slice A.qa A.qn A.qc]] wx (RV wx (.bool v)) := fun v wx hv hx => plainT (HA.out.below hx).p hv
  have H17 := Lib.hid h17
  clear h17
  cases hf : fitB A zs tzs ps qs
  · have HF := Lib.hid hf
    clear hf
    go_enter Tryd.func4, Tryd.ntmps4
    go_wp2_with fail
    rw [HWQ.out]
    refine (fitT HA.out HF.out).mono ?_
    rintro e w1 ⟨rfl, hb⟩
    have HB := Lib.hid hb
    clear hb
    go_wp2_with fail
    refine (HAWK.out _ HB.out).mono ?_
    rintro e w2 ⟨rfl, hb⟩
    have HB2 := Lib.hid (HB.out.trans (hb.mono HB.out.size))
    clear hb
    go_wp2
    go_ret
    exact ⟨rfl, HBW.out.trans (HB2.out.mono HBW.out.size)⟩
  · cases hpl : plainB A ps
    · have HF := Lib.hid hf
      have HPL := Lib.hid hpl
      clear hf hpl
      go_enter Tryd.func4, Tryd.ntmps4
      go_wp2_with fail
      rw [HWQ.out]
      refine (fitT HA.out HF.out).mono ?_
      rintro e w1 ⟨rfl, hb⟩
      have HB := Lib.hid hb
      have hbx := HKEEP.out _ hb
      obtain ⟨⟨c0, c1, c2, c3, c4, c5⟩, ⟨d0, d1, d2, d3, d4, d5⟩⟩ := hbx
      clear hb
      go_wp2_with fail
      refine (H17.out _ _ HPL.out HB.out).mono ?_
      rintro e w2 ⟨rfl, hb⟩
      have HB1 := Lib.hid (HB.out.trans (hb.mono HB.out.size))
      clear hb
      go_wp2_with fail
      refine (HAWK.out _ HB1.out).mono ?_
      rintro e w2 ⟨rfl, hb⟩
      have HB2 := Lib.hid (HB1.out.trans (hb.mono HB1.out.size))
      clear hb
      go_wp2
      go_ret
      exact ⟨rfl, HBW.out.trans (HB2.out.mono HBW.out.size)⟩
    · have HF := Lib.hid hf
      have HPL := Lib.hid hpl
      have hf2 : srcFit A.dat.size zs ps = true ∧ sinkFit tzs A.room A.rd A.bk qs = true := by unfold fitB at hf; simpa using hf
      have hfa : FitA A.dat.size zs ps := ⟨hf2.1, HNN.out.1, HNN.out.2⟩
      have hsz := sizeM_le n
      obtain ⟨m, hm⟩ : ∃ m, sizeM n = m := ⟨_, rfl⟩
      rw [hm] at hsz
      have hbz := sizeM_le bulk
      obtain ⟨bm, hbm⟩ : ∃ bm, sizeM bulk = bm := ⟨_, rfl⟩
      rw [hbm] at hbz
      have hsT : ∀ wx : World, Calls Tryd.prog 15 #[.int .i64 n] wx (fun e w' => e = .returned (.int .i64 (m : Nat)) ∧ w' = wx) := fun wx => by rw [← hm]; exact sizeT n wx
      have hsB : ∀ wx : World, Calls Tryd.prog 15 #[.int .i64 bulk] wx (fun e w' => e = .returned (.int .i64 (bm : Nat)) ∧ w' = wx) := fun wx => by rw [← hbm]; exact sizeT bulk wx
      have h14 : ∀ (wr' rd' : Bool) (bk' : Int) (wx : World), bulkB rd' bk' = true → Below wq.heap.size wq wx → Calls Tryd.prog 14 #[.agg #[.string A.dat, .slice A.sa A.sn A.sc, .bool A.early, .bool A.broken, .bool wr', .slice A.pa A.pn A.pc], .agg #[.slice A.ta A.tn A.tc, .int .i64 A.room, .bool A.over, .bool rd', .int .i64 bk', .slice A.qa A.qn A.qc], .int .i64 m] wx (AllP A wx) := by
        intro wr' rd' bk' wx hbk hx
        have hA' := HA.out.below hx
        exact waysC (A := { A with wr := wr', rd := rd', bk := bk' }) ⟨hA'.z, hA'.p, hA'.t, hA'.q⟩ (HLQ.out.below hx) hfa (sinkFit_turn hf2.2 hbk) hpl hsz.1 hsz.2
      have hbk0 : bulkB false 0 = true := rfl
      have hbk1 : bulkB true (bm : Nat) = true := by unfold bulkB; simp; omega
      have HST := Lib.hid hsT
      have HSB := Lib.hid hsB
      have H14 := Lib.hid h14
      have HK0 := Lib.hid hbk0
      have HK1 := Lib.hid hbk1
      clear hf hpl hf2 hfa hm hbm hsT hsB h14 hbk0 hbk1
      go_enter Tryd.func4, Tryd.ntmps4
      go_wp2_with fail
      rw [HWQ.out]
      refine (fitT HA.out HF.out).mono ?_
      rintro e w1 ⟨rfl, hb⟩
      have HB := Lib.hid hb
      have hbx := HKEEP.out _ hb
      obtain ⟨⟨c0, c1, c2, c3, c4, c5⟩, ⟨d0, d1, d2, d3, d4, d5⟩⟩ := hbx
      clear hb
      go_wp2_with fail
      refine (H17.out _ _ HPL.out HB.out).mono ?_
      rintro e w2 ⟨rfl, hb⟩
      have HB1 := Lib.hid (HB.out.trans (hb.mono HB.out.size))
      clear hb c0 c1 c2 c3 c4 c5 d0 d1 d2 d3 d4 d5
      go_wp2_with fail
      go_loopw [9] (fun ix wr => ∃ k : Nat, k ≤ 4 ∧ ix = .int .i64 ((k : Nat) : Int) ∧ Below wq.heap.size wq wr) (fun ix _ => 4 - (intOf ix).toNat)
      case atStart => exact ⟨0, by omega, rfl, HB1.out⟩
      case round =>
        obtain ⟨k, hk, rfl, hb⟩ := hrel
        have hbx := HKEEP.out _ hb
        have HBR := Lib.hid hb
        have hlt1 : w.heap.size + 1 < wr.heap.size := World.block_lt_of_cell? _ _ hbx.2.1
        have hlt0 : w.heap.size < wr.heap.size := World.block_lt_of_cell? _ _ hbx.1.1
        clear hb
        obtain ⟨⟨c0, c1, c2, c3, c4, c5⟩, ⟨d0, d1, d2, d3, d4, d5⟩⟩ := hbx
        by_cases hlt : k < 4
        · have hk4 : k = 0 ∨ k = 1 ∨ k = 2 ∨ k = 3 := by omega
          rcases hk4 with hk9 | hk9 | hk9 | hk9
          · have e1 : (bits BinOp.and IntKind.i64 (k : Int) 1 == 1) = false := by rw [hk9]; decide
            have e2 : (bits BinOp.and IntKind.i64 (k : Int) 2 == 2) = false := by rw [hk9]; decide
            have HK9 := Lib.hid hk9
            clear hk9
            go_upto_region 13 with (fail)
            obtain ⟨wb, hwb⟩ : ∃ wb, (wr.alloc (.cells #[.string A.dat, .slice A.sa A.sn A.sc, .bool A.early, .bool A.broken, .bool false, .slice A.pa A.pn A.pc] 25)).alloc (.cells #[.slice A.ta A.tn A.tc, .int .i64 A.room, .bool A.over, .bool false, .int .i64 0, .slice A.qa A.qn A.qc] 29) = wb := ⟨_, rfl⟩
            rw [hwb]
            obtain ⟨tb1, tb2, tb3⟩ := twoBoxes _ _ _ _ _ _ _ _ _ _ _ _ _ _ _ hwb
            have hbb : Below wq.heap.size wq wb := HBR.out.trans (tb1.mono HBR.out.size)
            have h14 : ∀ wx : World, Below wb.heap.size wb wx → Calls Tryd.prog 14 #[.agg #[.string A.dat, .slice A.sa A.sn A.sc, .bool A.early, .bool A.broken, .bool false, .slice A.pa A.pn A.pc], .agg #[.slice A.ta A.tn A.tc, .int .i64 A.room, .bool A.over, .bool false, .int .i64 0, .slice A.qa A.qn A.qc], .int .i64 m] wx (AllP A wx) := fun wx hx => H14.out _ _ _ wx HK0.out (hbb.trans (hx.mono hbb.size))
            have HBB := Lib.hid hbb
            have HC14D := Lib.hid (h14 wb.drew (Below.refl _ _).drew)
            have HC14Z := Lib.hid (h14 ((wb.alloc (.cells #[.int .i64 0, .int .i64 0, .int .i64 0, .string ⟨#[]⟩, .slice none 0 0, .slice none 0 0, .int .i64 0, .int .i64 0, .int .i64 0] 37)).drew) ((Below.refl _ wb).alloc (Nat.le_refl _) _).drew)
            have hkb : ∀ wx : World, Below wb.heap.size wb wx → _ := fun wx hx => wayKeep (tb2.below hx) (tb3.below hx)
            have HKB := Lib.hid hkb
            clear hwb e1 e2 h14 tb1 tb2 tb3 hbb hkb c0 c1 c2 c3 c4 c5 d0 d1 d2 d3 d4 d5
            go_cut [12] from 24 to 75 (fun s12 wx => ∃ cb way k9 wk a1 n1 c1 a2 n2 c2, s12 = .pointer (some ⟨cb, 0, none⟩) ∧ Below wb.heap.size wb wx ∧ Blk wx cb [.int .i64 (A.dat.size : Nat), .int .i64 0, .int .i64 (way : Nat), .string A.dat, .slice a1 n1 c1, .slice a2 n2 c2, .int .i64 (k9 : Nat), .int .i64 (wk : Nat), .int .i64 0])
            case first =>
              go_region_held3 (fun wx : World => (wx.cell? ⟨wr.heap.size, 0, none⟩ = some (.string A.dat) ∧ wx.cell? ⟨wr.heap.size, 1, none⟩ = some (.slice A.sa A.sn A.sc) ∧ wx.cell? ⟨wr.heap.size, 2, none⟩ = some (.bool A.early) ∧ wx.cell? ⟨wr.heap.size, 3, none⟩ = some (.bool A.broken) ∧ wx.cell? ⟨wr.heap.size, 4, none⟩ = some (.bool false) ∧ wx.cell? ⟨wr.heap.size, 5, none⟩ = some (.slice A.pa A.pn A.pc)) ∧
                (wx.cell? ⟨wr.heap.size + 1, 0, none⟩ = some (.slice A.ta A.tn A.tc) ∧ wx.cell? ⟨wr.heap.size + 1, 1, none⟩ = some (.int .i64 A.room) ∧ wx.cell? ⟨wr.heap.size + 1, 2, none⟩ = some (.bool A.over) ∧ wx.cell? ⟨wr.heap.size + 1, 3, none⟩ = some (.bool false) ∧ wx.cell? ⟨wr.heap.size + 1, 4, none⟩ = some (.int .i64 0) ∧ wx.cell? ⟨wr.heap.size + 1, 5, none⟩ = some (.slice A.qa A.qn A.qc)))
                (first | (refine HKB.out _ ?_; repeat (first | refine Below.setCell ?_ (by first | (simp; done) | (simp; omega) | (have := HBA.out.size; simp; omega)) _ | refine Below.alloc ?_ (by first | (simp; done) | (simp; omega) | (have := HBA.out.size; simp; omega)) _ | refine Below.drew ?_ | exact HBA.out | exact Below.refl _ _)))
                (first
                  | (go_simp; go_at_call 15; refine (HST.out _).mono ?_; rintro e15 w15 ⟨rfl, rfl⟩)
                  | (go_simp; go_at_call 14; refine (HC14D.out).mono ?_; rintro eA wA ⟨way, k9, wk, a1, n1, c1, a2, n2, c2, rfl, hbx⟩; have HBA := Lib.hid ((Below.refl wb.heap.size wb).drew.trans hbx); clear hbx)
                  | (go_simp; go_at_call 14; refine (HC14Z.out).mono ?_; rintro eA wA ⟨way, k9, wk, a1, n1, c1, a2, n2, c2, rfl, hbx⟩; have hbA := ((Below.refl wb.heap.size wb).alloc (Nat.le_refl _) (.cells #[.int .i64 0, .int .i64 0, .int .i64 0, .string ⟨#[]⟩, .slice none 0 0, .slice none 0 0, .int .i64 0, .int .i64 0, .int .i64 0] 37)).drew; have HBA := Lib.hid (hbA.trans (hbx.mono hbA.size)); obtain ⟨hz, y0, y1, y2, y3, y4, y5, y6, y7, y8, fz0, fz1, fz2, fz3, fz4, fz5, fz6, fz7, fz8⟩ := zeroRec hbx; have HZ := Lib.hid hz; clear hz hbx hbA))
              all_goals
                go_wp2_with fail
                go_meet
                case rel =>
                  (first
                    | (refine ⟨_, way, k9, wk, a1, n1, c1, a2, n2, c2, rfl, ?_, ?_⟩
                       · with_reducible exact Below.alloc HBA.out HBA.out.size _
                       · with_reducible exact Blk.new _ _ _)
                    | (refine ⟨_, way, k9, wk, a1, n1, c1, a2, n2, c2, rfl, ?_, ?_⟩
                       · exact Below.put9 HBA.out (Nat.le_refl _) _ _ _ _ _ _ _ _ _
                       · exact Blk.put9 HZ.out _ _ _ _ _ _ _ _ _))
            case rest =>
              obtain ⟨cb, way, k9, wk, a1, n1, c1, a2, n2, c2, rfl, hbw, hB⟩ := hcut
              have hbq := HBB.out.trans (hbw.mono HBB.out.size)
              obtain ⟨⟨q0, q1, q2, q3, q4, q5⟩, ⟨r0, r1, r2, r3, r4, r5⟩⟩ := HKEEP.out _ hbq
              have HB6 := Lib.hid hbq
              have g0 := hB.cell 0 rfl
              have g1 := hB.cell 1 rfl
              have g3 := hB.cell 3 rfl
              have g8 := hB.cell 8 rfl
              have hdd : (A.dat.toList == A.dat.toList) = true := by simp
              clear hbw hB hbq HC14D HC14Z HKB
              go_wp2_with fail
              go_roundw
              case rel => exact ⟨k + 1, by omega, by go_num, HB6.out⟩
              case measure => simp [intOf]; omega
          · have e1 : (bits BinOp.and IntKind.i64 (k : Int) 1 == 1) = true := by rw [hk9]; decide
            have e2 : (bits BinOp.and IntKind.i64 (k : Int) 2 == 2) = false := by rw [hk9]; decide
            have HK9 := Lib.hid hk9
            clear hk9
            go_upto_region 13 with (fail)
            obtain ⟨wb, hwb⟩ : ∃ wb, (wr.alloc (.cells #[.string A.dat, .slice A.sa A.sn A.sc, .bool A.early, .bool A.broken, .bool true, .slice A.pa A.pn A.pc] 25)).alloc (.cells #[.slice A.ta A.tn A.tc, .int .i64 A.room, .bool A.over, .bool false, .int .i64 0, .slice A.qa A.qn A.qc] 29) = wb := ⟨_, rfl⟩
            rw [hwb]
            obtain ⟨tb1, tb2, tb3⟩ := twoBoxes _ _ _ _ _ _ _ _ _ _ _ _ _ _ _ hwb
            have hbb : Below wq.heap.size wq wb := HBR.out.trans (tb1.mono HBR.out.size)
            have h14 : ∀ wx : World, Below wb.heap.size wb wx → Calls Tryd.prog 14 #[.agg #[.string A.dat, .slice A.sa A.sn A.sc, .bool A.early, .bool A.broken, .bool true, .slice A.pa A.pn A.pc], .agg #[.slice A.ta A.tn A.tc, .int .i64 A.room, .bool A.over, .bool false, .int .i64 0, .slice A.qa A.qn A.qc], .int .i64 m] wx (AllP A wx) := fun wx hx => H14.out _ _ _ wx HK0.out (hbb.trans (hx.mono hbb.size))
            have HBB := Lib.hid hbb
            have HC14D := Lib.hid (h14 wb.drew (Below.refl _ _).drew)
            have HC14Z := Lib.hid (h14 ((wb.alloc (.cells #[.int .i64 0, .int .i64 0, .int .i64 0, .string ⟨#[]⟩, .slice none 0 0, .slice none 0 0, .int .i64 0, .int .i64 0, .int .i64 0] 37)).drew) ((Below.refl _ wb).alloc (Nat.le_refl _) _).drew)
            have hkb : ∀ wx : World, Below wb.heap.size wb wx → _ := fun wx hx => wayKeep (tb2.below hx) (tb3.below hx)
            have HKB := Lib.hid hkb
            clear hwb e1 e2 h14 tb1 tb2 tb3 hbb hkb c0 c1 c2 c3 c4 c5 d0 d1 d2 d3 d4 d5
            go_cut [12] from 24 to 75 (fun s12 wx => ∃ cb way k9 wk a1 n1 c1 a2 n2 c2, s12 = .pointer (some ⟨cb, 0, none⟩) ∧ Below wb.heap.size wb wx ∧ Blk wx cb [.int .i64 (A.dat.size : Nat), .int .i64 0, .int .i64 (way : Nat), .string A.dat, .slice a1 n1 c1, .slice a2 n2 c2, .int .i64 (k9 : Nat), .int .i64 (wk : Nat), .int .i64 0])
            case first =>
              go_region_held3 (fun wx : World => (wx.cell? ⟨wr.heap.size, 0, none⟩ = some (.string A.dat) ∧ wx.cell? ⟨wr.heap.size, 1, none⟩ = some (.slice A.sa A.sn A.sc) ∧ wx.cell? ⟨wr.heap.size, 2, none⟩ = some (.bool A.early) ∧ wx.cell? ⟨wr.heap.size, 3, none⟩ = some (.bool A.broken) ∧ wx.cell? ⟨wr.heap.size, 4, none⟩ = some (.bool true) ∧ wx.cell? ⟨wr.heap.size, 5, none⟩ = some (.slice A.pa A.pn A.pc)) ∧
                (wx.cell? ⟨wr.heap.size + 1, 0, none⟩ = some (.slice A.ta A.tn A.tc) ∧ wx.cell? ⟨wr.heap.size + 1, 1, none⟩ = some (.int .i64 A.room) ∧ wx.cell? ⟨wr.heap.size + 1, 2, none⟩ = some (.bool A.over) ∧ wx.cell? ⟨wr.heap.size + 1, 3, none⟩ = some (.bool false) ∧ wx.cell? ⟨wr.heap.size + 1, 4, none⟩ = some (.int .i64 0) ∧ wx.cell? ⟨wr.heap.size + 1, 5, none⟩ = some (.slice A.qa A.qn A.qc)))
                (first | (refine HKB.out _ ?_; repeat (first | refine Below.setCell ?_ (by first | (simp; done) | (simp; omega) | (have := HBA.out.size; simp; omega)) _ | refine Below.alloc ?_ (by first | (simp; done) | (simp; omega) | (have := HBA.out.size; simp; omega)) _ | refine Below.drew ?_ | exact HBA.out | exact Below.refl _ _)))
                (first
                  | (go_simp; go_at_call 15; refine (HST.out _).mono ?_; rintro e15 w15 ⟨rfl, rfl⟩)
                  | (go_simp; go_at_call 14; refine (HC14D.out).mono ?_; rintro eA wA ⟨way, k9, wk, a1, n1, c1, a2, n2, c2, rfl, hbx⟩; have HBA := Lib.hid ((Below.refl wb.heap.size wb).drew.trans hbx); clear hbx)
                  | (go_simp; go_at_call 14; refine (HC14Z.out).mono ?_; rintro eA wA ⟨way, k9, wk, a1, n1, c1, a2, n2, c2, rfl, hbx⟩; have hbA := ((Below.refl wb.heap.size wb).alloc (Nat.le_refl _) (.cells #[.int .i64 0, .int .i64 0, .int .i64 0, .string ⟨#[]⟩, .slice none 0 0, .slice none 0 0, .int .i64 0, .int .i64 0, .int .i64 0] 37)).drew; have HBA := Lib.hid (hbA.trans (hbx.mono hbA.size)); obtain ⟨hz, y0, y1, y2, y3, y4, y5, y6, y7, y8, fz0, fz1, fz2, fz3, fz4, fz5, fz6, fz7, fz8⟩ := zeroRec hbx; have HZ := Lib.hid hz; clear hz hbx hbA))
              all_goals
                go_wp2_with fail
                go_meet
                case rel =>
                  (first
                    | (refine ⟨_, way, k9, wk, a1, n1, c1, a2, n2, c2, rfl, ?_, ?_⟩
                       · with_reducible exact Below.alloc HBA.out HBA.out.size _
                       · with_reducible exact Blk.new _ _ _)
                    | (refine ⟨_, way, k9, wk, a1, n1, c1, a2, n2, c2, rfl, ?_, ?_⟩
                       · exact Below.put9 HBA.out (Nat.le_refl _) _ _ _ _ _ _ _ _ _
                       · exact Blk.put9 HZ.out _ _ _ _ _ _ _ _ _))
            case rest =>
              obtain ⟨cb, way, k9, wk, a1, n1, c1, a2, n2, c2, rfl, hbw, hB⟩ := hcut
              have hbq := HBB.out.trans (hbw.mono HBB.out.size)
              obtain ⟨⟨q0, q1, q2, q3, q4, q5⟩, ⟨r0, r1, r2, r3, r4, r5⟩⟩ := HKEEP.out _ hbq
              have HB6 := Lib.hid hbq
              have g0 := hB.cell 0 rfl
              have g1 := hB.cell 1 rfl
              have g3 := hB.cell 3 rfl
              have g8 := hB.cell 8 rfl
              have hdd : (A.dat.toList == A.dat.toList) = true := by simp
              clear hbw hB hbq HC14D HC14Z HKB
              go_wp2_with fail
              go_roundw
              case rel => exact ⟨k + 1, by omega, by go_num, HB6.out⟩
              case measure => simp [intOf]; omega
          · have e1 : (bits BinOp.and IntKind.i64 (k : Int) 1 == 1) = false := by rw [hk9]; decide
            have e2 : (bits BinOp.and IntKind.i64 (k : Int) 2 == 2) = true := by rw [hk9]; decide
            have HK9 := Lib.hid hk9
            clear hk9
            go_upto_region 13 with ((go_at_call 15; refine (HSB.out _).mono ?_; rintro e15 w15 ⟨rfl, rfl⟩))
            obtain ⟨wb, hwb⟩ : ∃ wb, (wr.alloc (.cells #[.string A.dat, .slice A.sa A.sn A.sc, .bool A.early, .bool A.broken, .bool false, .slice A.pa A.pn A.pc] 25)).alloc (.cells #[.slice A.ta A.tn A.tc, .int .i64 A.room, .bool A.over, .bool true, .int .i64 (bm : Int), .slice A.qa A.qn A.qc] 29) = wb := ⟨_, rfl⟩
            rw [hwb]
            obtain ⟨tb1, tb2, tb3⟩ := twoBoxes _ _ _ _ _ _ _ _ _ _ _ _ _ _ _ hwb
            have hbb : Below wq.heap.size wq wb := HBR.out.trans (tb1.mono HBR.out.size)
            have h14 : ∀ wx : World, Below wb.heap.size wb wx → Calls Tryd.prog 14 #[.agg #[.string A.dat, .slice A.sa A.sn A.sc, .bool A.early, .bool A.broken, .bool false, .slice A.pa A.pn A.pc], .agg #[.slice A.ta A.tn A.tc, .int .i64 A.room, .bool A.over, .bool true, .int .i64 (bm : Int), .slice A.qa A.qn A.qc], .int .i64 m] wx (AllP A wx) := fun wx hx => H14.out _ _ _ wx HK1.out (hbb.trans (hx.mono hbb.size))
            have HBB := Lib.hid hbb
            have HC14D := Lib.hid (h14 wb.drew (Below.refl _ _).drew)
            have HC14Z := Lib.hid (h14 ((wb.alloc (.cells #[.int .i64 0, .int .i64 0, .int .i64 0, .string ⟨#[]⟩, .slice none 0 0, .slice none 0 0, .int .i64 0, .int .i64 0, .int .i64 0] 37)).drew) ((Below.refl _ wb).alloc (Nat.le_refl _) _).drew)
            have hkb : ∀ wx : World, Below wb.heap.size wb wx → _ := fun wx hx => wayKeep (tb2.below hx) (tb3.below hx)
            have HKB := Lib.hid hkb
            clear hwb e1 e2 h14 tb1 tb2 tb3 hbb hkb c0 c1 c2 c3 c4 c5 d0 d1 d2 d3 d4 d5
            go_cut [12] from 24 to 75 (fun s12 wx => ∃ cb way k9 wk a1 n1 c1 a2 n2 c2, s12 = .pointer (some ⟨cb, 0, none⟩) ∧ Below wb.heap.size wb wx ∧ Blk wx cb [.int .i64 (A.dat.size : Nat), .int .i64 0, .int .i64 (way : Nat), .string A.dat, .slice a1 n1 c1, .slice a2 n2 c2, .int .i64 (k9 : Nat), .int .i64 (wk : Nat), .int .i64 0])
            case first =>
              go_region_held3 (fun wx : World => (wx.cell? ⟨wr.heap.size, 0, none⟩ = some (.string A.dat) ∧ wx.cell? ⟨wr.heap.size, 1, none⟩ = some (.slice A.sa A.sn A.sc) ∧ wx.cell? ⟨wr.heap.size, 2, none⟩ = some (.bool A.early) ∧ wx.cell? ⟨wr.heap.size, 3, none⟩ = some (.bool A.broken) ∧ wx.cell? ⟨wr.heap.size, 4, none⟩ = some (.bool false) ∧ wx.cell? ⟨wr.heap.size, 5, none⟩ = some (.slice A.pa A.pn A.pc)) ∧
                (wx.cell? ⟨wr.heap.size + 1, 0, none⟩ = some (.slice A.ta A.tn A.tc) ∧ wx.cell? ⟨wr.heap.size + 1, 1, none⟩ = some (.int .i64 A.room) ∧ wx.cell? ⟨wr.heap.size + 1, 2, none⟩ = some (.bool A.over) ∧ wx.cell? ⟨wr.heap.size + 1, 3, none⟩ = some (.bool true) ∧ wx.cell? ⟨wr.heap.size + 1, 4, none⟩ = some (.int .i64 (bm : Int)) ∧ wx.cell? ⟨wr.heap.size + 1, 5, none⟩ = some (.slice A.qa A.qn A.qc)))
                (first | (refine HKB.out _ ?_; repeat (first | refine Below.setCell ?_ (by first | (simp; done) | (simp; omega) | (have := HBA.out.size; simp; omega)) _ | refine Below.alloc ?_ (by first | (simp; done) | (simp; omega) | (have := HBA.out.size; simp; omega)) _ | refine Below.drew ?_ | exact HBA.out | exact Below.refl _ _)))
                (first
                  | (go_simp; go_at_call 15; refine (HST.out _).mono ?_; rintro e15 w15 ⟨rfl, rfl⟩)
                  | (go_simp; go_at_call 14; refine (HC14D.out).mono ?_; rintro eA wA ⟨way, k9, wk, a1, n1, c1, a2, n2, c2, rfl, hbx⟩; have HBA := Lib.hid ((Below.refl wb.heap.size wb).drew.trans hbx); clear hbx)
                  | (go_simp; go_at_call 14; refine (HC14Z.out).mono ?_; rintro eA wA ⟨way, k9, wk, a1, n1, c1, a2, n2, c2, rfl, hbx⟩; have hbA := ((Below.refl wb.heap.size wb).alloc (Nat.le_refl _) (.cells #[.int .i64 0, .int .i64 0, .int .i64 0, .string ⟨#[]⟩, .slice none 0 0, .slice none 0 0, .int .i64 0, .int .i64 0, .int .i64 0] 37)).drew; have HBA := Lib.hid (hbA.trans (hbx.mono hbA.size)); obtain ⟨hz, y0, y1, y2, y3, y4, y5, y6, y7, y8, fz0, fz1, fz2, fz3, fz4, fz5, fz6, fz7, fz8⟩ := zeroRec hbx; have HZ := Lib.hid hz; clear hz hbx hbA))
              all_goals
                go_wp2_with fail
                go_meet
                case rel =>
                  (first
                    | (refine ⟨_, way, k9, wk, a1, n1, c1, a2, n2, c2, rfl, ?_, ?_⟩
                       · with_reducible exact Below.alloc HBA.out HBA.out.size _
                       · with_reducible exact Blk.new _ _ _)
                    | (refine ⟨_, way, k9, wk, a1, n1, c1, a2, n2, c2, rfl, ?_, ?_⟩
                       · exact Below.put9 HBA.out (Nat.le_refl _) _ _ _ _ _ _ _ _ _
                       · exact Blk.put9 HZ.out _ _ _ _ _ _ _ _ _))
            case rest =>
              obtain ⟨cb, way, k9, wk, a1, n1, c1, a2, n2, c2, rfl, hbw, hB⟩ := hcut
              have hbq := HBB.out.trans (hbw.mono HBB.out.size)
              obtain ⟨⟨q0, q1, q2, q3, q4, q5⟩, ⟨r0, r1, r2, r3, r4, r5⟩⟩ := HKEEP.out _ hbq
              have HB6 := Lib.hid hbq
              have g0 := hB.cell 0 rfl
              have g1 := hB.cell 1 rfl
              have g3 := hB.cell 3 rfl
              have g8 := hB.cell 8 rfl
              have hdd : (A.dat.toList == A.dat.toList) = true := by simp
              clear hbw hB hbq HC14D HC14Z HKB
              go_wp2_with fail
              go_roundw
              case rel => exact ⟨k + 1, by omega, by go_num, HB6.out⟩
              case measure => simp [intOf]; omega
          · have e1 : (bits BinOp.and IntKind.i64 (k : Int) 1 == 1) = true := by rw [hk9]; decide
            have e2 : (bits BinOp.and IntKind.i64 (k : Int) 2 == 2) = true := by rw [hk9]; decide
            have HK9 := Lib.hid hk9
            clear hk9
            go_upto_region 13 with ((go_at_call 15; refine (HSB.out _).mono ?_; rintro e15 w15 ⟨rfl, rfl⟩))
            obtain ⟨wb, hwb⟩ : ∃ wb, (wr.alloc (.cells #[.string A.dat, .slice A.sa A.sn A.sc, .bool A.early, .bool A.broken, .bool true, .slice A.pa A.pn A.pc] 25)).alloc (.cells #[.slice A.ta A.tn A.tc, .int .i64 A.room, .bool A.over, .bool true, .int .i64 (bm : Int), .slice A.qa A.qn A.qc] 29) = wb := ⟨_, rfl⟩
            rw [hwb]
            obtain ⟨tb1, tb2, tb3⟩ := twoBoxes _ _ _ _ _ _ _ _ _ _ _ _ _ _ _ hwb
            have hbb : Below wq.heap.size wq wb := HBR.out.trans (tb1.mono HBR.out.size)
            have h14 : ∀ wx : World, Below wb.heap.size wb wx → Calls Tryd.prog 14 #[.agg #[.string A.dat, .slice A.sa A.sn A.sc, .bool A.early, .bool A.broken, .bool true, .slice A.pa A.pn A.pc], .agg #[.slice A.ta A.tn A.tc, .int .i64 A.room, .bool A.over, .bool true, .int .i64 (bm : Int), .slice A.qa A.qn A.qc], .int .i64 m] wx (AllP A wx) := fun wx hx => H14.out _ _ _ wx HK1.out (hbb.trans (hx.mono hbb.size))
            have HBB := Lib.hid hbb
            have HC14D := Lib.hid (h14 wb.drew (Below.refl _ _).drew)
            have HC14Z := Lib.hid (h14 ((wb.alloc (.cells #[.int .i64 0, .int .i64 0, .int .i64 0, .string ⟨#[]⟩, .slice none 0 0, .slice none 0 0, .int .i64 0, .int .i64 0, .int .i64 0] 37)).drew) ((Below.refl _ wb).alloc (Nat.le_refl _) _).drew)
            have hkb : ∀ wx : World, Below wb.heap.size wb wx → _ := fun wx hx => wayKeep (tb2.below hx) (tb3.below hx)
            have HKB := Lib.hid hkb
            clear hwb e1 e2 h14 tb1 tb2 tb3 hbb hkb c0 c1 c2 c3 c4 c5 d0 d1 d2 d3 d4 d5
            go_cut [12] from 24 to 75 (fun s12 wx => ∃ cb way k9 wk a1 n1 c1 a2 n2 c2, s12 = .pointer (some ⟨cb, 0, none⟩) ∧ Below wb.heap.size wb wx ∧ Blk wx cb [.int .i64 (A.dat.size : Nat), .int .i64 0, .int .i64 (way : Nat), .string A.dat, .slice a1 n1 c1, .slice a2 n2 c2, .int .i64 (k9 : Nat), .int .i64 (wk : Nat), .int .i64 0])
            case first =>
              go_region_held3 (fun wx : World => (wx.cell? ⟨wr.heap.size, 0, none⟩ = some (.string A.dat) ∧ wx.cell? ⟨wr.heap.size, 1, none⟩ = some (.slice A.sa A.sn A.sc) ∧ wx.cell? ⟨wr.heap.size, 2, none⟩ = some (.bool A.early) ∧ wx.cell? ⟨wr.heap.size, 3, none⟩ = some (.bool A.broken) ∧ wx.cell? ⟨wr.heap.size, 4, none⟩ = some (.bool true) ∧ wx.cell? ⟨wr.heap.size, 5, none⟩ = some (.slice A.pa A.pn A.pc)) ∧
                (wx.cell? ⟨wr.heap.size + 1, 0, none⟩ = some (.slice A.ta A.tn A.tc) ∧ wx.cell? ⟨wr.heap.size + 1, 1, none⟩ = some (.int .i64 A.room) ∧ wx.cell? ⟨wr.heap.size + 1, 2, none⟩ = some (.bool A.over) ∧ wx.cell? ⟨wr.heap.size + 1, 3, none⟩ = some (.bool true) ∧ wx.cell? ⟨wr.heap.size + 1, 4, none⟩ = some (.int .i64 (bm : Int)) ∧ wx.cell? ⟨wr.heap.size + 1, 5, none⟩ = some (.slice A.qa A.qn A.qc)))
                (first | (refine HKB.out _ ?_; repeat (first | refine Below.setCell ?_ (by first | (simp; done) | (simp; omega) | (have := HBA.out.size; simp; omega)) _ | refine Below.alloc ?_ (by first | (simp; done) | (simp; omega) | (have := HBA.out.size; simp; omega)) _ | refine Below.drew ?_ | exact HBA.out | exact Below.refl _ _)))
                (first
                  | (go_simp; go_at_call 15; refine (HST.out _).mono ?_; rintro e15 w15 ⟨rfl, rfl⟩)
                  | (go_simp; go_at_call 14; refine (HC14D.out).mono ?_; rintro eA wA ⟨way, k9, wk, a1, n1, c1, a2, n2, c2, rfl, hbx⟩; have HBA := Lib.hid ((Below.refl wb.heap.size wb).drew.trans hbx); clear hbx)
                  | (go_simp; go_at_call 14; refine (HC14Z.out).mono ?_; rintro eA wA ⟨way, k9, wk, a1, n1, c1, a2, n2, c2, rfl, hbx⟩; have hbA := ((Below.refl wb.heap.size wb).alloc (Nat.le_refl _) (.cells #[.int .i64 0, .int .i64 0, .int .i64 0, .string ⟨#[]⟩, .slice none 0 0, .slice none 0 0, .int .i64 0, .int .i64 0, .int .i64 0] 37)).drew; have HBA := Lib.hid (hbA.trans (hbx.mono hbA.size)); obtain ⟨hz, y0, y1, y2, y3, y4, y5, y6, y7, y8, fz0, fz1, fz2, fz3, fz4, fz5, fz6, fz7, fz8⟩ := zeroRec hbx; have HZ := Lib.hid hz; clear hz hbx hbA))
              all_goals
                go_wp2_with fail
                go_meet
                case rel =>
                  (first
                    | (refine ⟨_, way, k9, wk, a1, n1, c1, a2, n2, c2, rfl, ?_, ?_⟩
                       · with_reducible exact Below.alloc HBA.out HBA.out.size _
                       · with_reducible exact Blk.new _ _ _)
                    | (refine ⟨_, way, k9, wk, a1, n1, c1, a2, n2, c2, rfl, ?_, ?_⟩
                       · exact Below.put9 HBA.out (Nat.le_refl _) _ _ _ _ _ _ _ _ _
                       · exact Blk.put9 HZ.out _ _ _ _ _ _ _ _ _))
            case rest =>
              obtain ⟨cb, way, k9, wk, a1, n1, c1, a2, n2, c2, rfl, hbw, hB⟩ := hcut
              have hbq := HBB.out.trans (hbw.mono HBB.out.size)
              obtain ⟨⟨q0, q1, q2, q3, q4, q5⟩, ⟨r0, r1, r2, r3, r4, r5⟩⟩ := HKEEP.out _ hbq
              have HB6 := Lib.hid hbq
              have g0 := hB.cell 0 rfl
              have g1 := hB.cell 1 rfl
              have g3 := hB.cell 3 rfl
              have g8 := hB.cell 8 rfl
              have hdd : (A.dat.toList == A.dat.toList) = true := by simp
              clear hbw hB hbq HC14D HC14Z HKB
              go_wp2_with fail
              go_roundw
              case rel => exact ⟨k + 1, by omega, by go_num, HB6.out⟩
              case measure => simp [intOf]; omega
        · obtain rfl : k = 4 := by omega
          go_wp2_with fail
          refine (HAWK.out _ HBR.out).mono ?_
          rintro e w2 ⟨rfl, hb⟩
          have HB2 := Lib.hid (HBR.out.trans (hb.mono HBR.out.size))
          clear hb
          go_wp2
          go_ret
          exact ⟨rfl, HBW.out.trans (HB2.out.mono HBW.out.size)⟩
end Go.Proofs.YtigfgdefgnahpaaDoor
