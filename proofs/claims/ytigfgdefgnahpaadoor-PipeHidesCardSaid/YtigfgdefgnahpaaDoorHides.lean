/-
  The walk of PipeHides. Not a statement of the seat.
-/
import Derived.Test.YtigfgdefgnahpaaDoorLosesPure
import Derived.Deep.CutRange
namespace Go.Proofs.YtigfgdefgnahpaaDoor
open Go.RowKit

theorem hides_turn {tzs : List Int} {room bk bk' : Int} {rd rd' : Bool} {qs : List Pp} (h : sinkFit tzs room rd bk qs = true) (hb : bulkB rd' bk' = true) : sinkFit tzs room rd' bk' qs = true := by
  unfold sinkFit innerB at *
  simp only [Bool.and_eq_true] at h ⊢
  exact ⟨⟨⟨hb, h.1.1.2⟩, h.1.2⟩, h.2⟩
theorem onlyB_more (ps : List Pp) : onlyB (ps ++ [newPp 1 0]) = false := by
  unfold onlyB
  rw [List.all_append]
  simp [newPp]
/-- the source's own writing is hidden -/
theorem hidesS {A : Sa} {zs tzs : List Int} {ps qs : List Pp} {m : Nat} {b : Bool} : resOf { A with wr := b } zs tzs (ps ++ [newPp 1 0]) qs m = resOf A zs tzs (ps ++ [newPp 1 0]) qs m := by
  unfold resOf
  refine copyM_hidS (x := (newPp 1 0).fresh) (l := upto ps ps.length) ?_ (by show ¬ (1 : Int) = 2; decide)
  show upto (ps ++ [newPp 1 0]) (ps ++ [newPp 1 0]).length = _
  rw [List.length_append]
  exact upto_more rfl
/-- the sink's own reading is hidden -/
theorem hidesK {A : Sa} {zs tzs : List Int} {ps qs : List Pp} {m : Nat} {b : Bool} {bk : Int} : resOf { A with rd := b, bk := bk } zs tzs ps (qs ++ [newPp 1 0]) m = resOf A zs tzs ps (qs ++ [newPp 1 0]) m := by
  unfold resOf
  refine copyM_hidK (x := (newPp 1 0).kw) (l := uptoK qs qs.length) ?_ rfl
  show uptoK (qs ++ [newPp 1 0]) (qs ++ [newPp 1 0]).length = _
  rw [List.length_append]
  exact uptoK_more rfl
/-- a box laid behind -/
theorem oneBox {w we : World} {cs : Array Value} {t : TypeId} (h : w.alloc (.cells cs t) = we) : Below w.heap.size w we ∧ Blk we w.heap.size cs.toList := by
  subst h
  exact ⟨(Below.refl _ _).alloc (Nat.le_refl _) _, Blk.new _ _ _⟩
theorem Rd.onePipeAt (w : World) (op n : Int) {g : Nat} (hg : g = w.heap.size) : Rd (w.alloc (.cells #[.int .i64 op, .int .i64 n, .slice none 0 0, .int .i64 0, .bool false, .bool false, .int .i64 0] 43)) 7 (some ⟨g, 0, none⟩) 1 1 (newPp op n).cells := by
  subst hg
  exact Rd.onePipe w op n
theorem grownA {Wb Wd : World} {B n c : Nat} {a' : Option Addr} {xs : List Value} {cs : Array Value} {t : TypeId} {o : Obj} (hrb : Row B Wb 7 a' n c xs) (hgd : ((Wb.alloc (.cells cs t)).alloc o).grownBy Wd (blockOf a')) : Blk Wd Wb.heap.size cs.toList :=
  ((Blk.new Wb cs t).alloc o).grown hgd (fun e => by have := (hrb.lt _ e).2; omega)
/-- a wrapper more, in new memory, and its row laid into a new box -/
theorem grownB {Wa Wb Wd We : World} {pn c' c2 pc j : Nat} {pa a' a2 : Option Addr} {ps : List Pp} {op : Int} {cs : Array Value} {t : TypeId} {o : Obj} (hP : Pipes Wa free pa pn pc ps) (hgb : Wa.grownBy Wb none) (hrb : Row Wa.heap.size Wb 7 a' pn c' (rowC ps)) (hgd : ((Wb.alloc (.cells cs t)).alloc o).grownBy Wd (blockOf a'))
    (hrd : Row Wa.heap.size Wd 7 a2 (pn + 1) c2 (rowC ps ++ (newPp op 0).cells)) (hbk : blockOf a2 = blockOf a' ∨ blockOf a2 = some ((Wb.alloc (.cells cs t)).alloc o).heap.size) (he : Wd.setCell ⟨Wb.heap.size, j, none⟩ (.slice a2 (pn + 1) c2) = We) :
    Below Wa.heap.size Wa We ∧ Blk We Wb.heap.size (cs.toList.set j (.slice a2 (pn + 1) c2)) ∧ Pipes We free a2 (pn + 1) c2 (ps ++ [newPp op 0]) := by
  have hB := grownA hrb hgd
  have hab := below_of_grown hgb
  have h1 : Below Wa.heap.size Wa ((Wb.alloc (.cells cs t)).alloc o) := (hab.alloc hab.size _).alloc (by rw [sz_alloc]; have := hab.size; omega) _
  have h2 : Below Wa.heap.size ((Wb.alloc (.cells cs t)).alloc o) Wd := below_of_grownAt hgd (fun b hb => (hrb.lt b hb).1) (by rw [sz_alloc, sz_alloc]; have := hab.size; omega)
  have h3 : Below Wa.heap.size Wa We := by rw [← he]; exact (h1.trans h2).setCell (p := ⟨Wb.heap.size, j, none⟩) hab.size _
  have hne : blockOf a2 ≠ some Wb.heap.size := fun e9 => by
    rcases hbk with h | h
    · rw [h] at e9
      have := (hrb.lt _ e9).2
      omega
    · rw [h] at e9
      simp only [sz_alloc, Option.some.injEq] at e9
      omega
  refine ⟨h3, ?_, hP.more h3 (B := Wa.heap.size) ?_⟩
  · rw [← he]; exact hB.set (j := j) _
  · rw [← he]; exact hrd.kept (grownBy_setAt _ ⟨Wb.heap.size, j, none⟩ _) (.inl hne)

set_option maxRecDepth 100000 in
set_option maxHeartbeats 8000000 in
theorem hidesT {A : Sa} {zs tzs : List Int} {ps qs : List Pp} {eb : Nat} {n : Int} {w : World} (hA : ArgsAt w A zs tzs ps qs) (hL : Laid eb w) (hn : ∀ x ∈ ps, -9223372036854775808 ≤ x.n ∧ x.n ≤ 9223372036854775807) (hl : ∀ x ∈ ps, x.zs.length = x.sn) :
    Calls Tryd.prog 7 #[.agg #[.string A.dat, .slice A.sa A.sn A.sc, .bool A.early, .bool A.broken, .bool A.wr, .slice A.pa A.pn A.pc], .agg #[.slice A.ta A.tn A.tc, .int .i64 A.room, .bool A.over, .bool A.rd, .int .i64 A.bk, .slice A.qa A.qn A.qc], .int .i64 n] w (RV w (.bool true)) := by
  obtain ⟨i0, hy0, hy1, hy2, hy3⟩ := pipeInfo
  obtain ⟨wq, hwq⟩ : ∃ wq, (w.alloc (.cells #[.string A.dat, .slice A.sa A.sn A.sc, .bool A.early, .bool A.broken, .bool A.wr, .slice A.pa A.pn A.pc] 25)).alloc (.cells #[.slice A.ta A.tn A.tc, .int .i64 A.room, .bool A.over, .bool A.rd, .int .i64 A.bk, .slice A.qa A.qn A.qc] 29) = wq := ⟨_, rfl⟩
  obtain ⟨hbw, hb1, hb2⟩ := twoBoxes _ _ _ _ _ _ _ _ _ _ _ _ _ _ _ hwq
  have hbox : Boxed w.heap.size (w.heap.size + 1) A wq := wayKeep hb1 hb2
  have hAq := hA.below hbw
  have hLq := hL.below hbw
  have hkeep : ∀ wx : World, Below wq.heap.size wq wx → Boxed w.heap.size (w.heap.size + 1) A wx := fun wx hx => hbox.below hx
  have hawk : ∀ wx : World, Below wq.heap.size wq wx → Calls Tryd.prog 12 #[] wx (RV wx (.bool true)) := fun wx hx => awakeT (hLq.below hx)
  have hpl := hAq.p.len
  have hql := hAq.q.len
  have HKEEP := Lib.hid hkeep
  have HAWK := Lib.hid hawk
  have HA := Lib.hid hAq
  have HLQ := Lib.hid hLq
  have HBW := Lib.hid hbw
  have HWQ := Lib.hid hwq
  have HNN := Lib.hid (And.intro hn hl)
  have HPL := Lib.hid (And.intro hpl hql)
  have HY := Lib.hid (And.intro hy0 (And.intro hy1 (And.intro hy2 hy3)))
  have hpc := hAq.p.1.1.le
  have hqc := hAq.q.1.1.le
  obtain ⟨⟨c0, c1, c2, c3, c4, c5⟩, ⟨d0, d1, d2, d3, d4, d5⟩⟩ := hbox
  clear hA hbw hb1 hb2 hL hn hl hAq hLq hkeep hawk hwq hpl hql hy0 hy1 hy2 hy3
  cases hf : fitB A zs tzs ps qs
  · have HF := Lib.hid hf
    clear hf
    go_enter Tryd.func7, Tryd.ntmps7
    go_wp2_with fail
    rw [HWQ.out]
    refine (fitT HA.out HF.out).mono ?_
    rintro e w1 ⟨rfl, hb⟩
    have HB := Lib.hid hb
    clear hb
    go_wp2_with fail
    refine (HAWK.out _ HB.out).mono ?_
    rintro e w2 ⟨rfl, hb⟩
    have HB2 := Lib.hid (HB.out.trans (hb.mono HB.out.size))
    clear hb
    go_wp2
    go_ret
    exact ⟨rfl, HBW.out.trans (HB2.out.mono HBW.out.size)⟩
  · by_cases h8 : A.pn < 8 ∧ A.qn < 8
    case neg =>
      have HF := Lib.hid hf
      clear hf
      by_cases h8a : A.pn < 8
      · have k1 : decide ((A.pn : Int) ≥ 8) = false := by simp; omega
        have k2 : decide ((A.qn : Int) ≥ 8) = true := by simp; omega
        have k1' : decide ((8 : Int) ≤ A.pn) = false := by simp; omega
        have k2' : decide ((8 : Int) ≤ A.qn) = true := by simp; omega
        clear h8 h8a
        go_enter Tryd.func7, Tryd.ntmps7
        go_wp2_with fail
        rw [HWQ.out]
        refine (fitT HA.out HF.out).mono ?_
        rintro e w1 ⟨rfl, hb⟩
        have HB := Lib.hid hb
        obtain ⟨⟨c0, c1, c2, c3, c4, c5⟩, ⟨d0, d1, d2, d3, d4, d5⟩⟩ := HKEEP.out _ hb
        clear hb
        go_wp2_with fail
        refine (HAWK.out _ HB.out).mono ?_
        rintro e w2 ⟨rfl, hb⟩
        have HB2 := Lib.hid (HB.out.trans (hb.mono HB.out.size))
        clear hb c0 c1 c2 c3 c4 c5 d0 d1 d2 d3 d4 d5
        go_wp2
        go_ret
        exact ⟨rfl, HBW.out.trans (HB2.out.mono HBW.out.size)⟩
      · have k1 : decide ((A.pn : Int) ≥ 8) = true := by simp; omega
        have k1' : decide ((8 : Int) ≤ A.pn) = true := by simp; omega
        clear h8 h8a
        go_enter Tryd.func7, Tryd.ntmps7
        go_wp2_with fail
        rw [HWQ.out]
        refine (fitT HA.out HF.out).mono ?_
        rintro e w1 ⟨rfl, hb⟩
        have HB := Lib.hid hb
        obtain ⟨⟨c0, c1, c2, c3, c4, c5⟩, ⟨d0, d1, d2, d3, d4, d5⟩⟩ := HKEEP.out _ hb
        clear hb
        go_wp2_with fail
        refine (HAWK.out _ HB.out).mono ?_
        rintro e w2 ⟨rfl, hb⟩
        have HB2 := Lib.hid (HB.out.trans (hb.mono HB.out.size))
        clear hb c0 c1 c2 c3 c4 c5 d0 d1 d2 d3 d4 d5
        go_wp2
        go_ret
        exact ⟨rfl, HBW.out.trans (HB2.out.mono HBW.out.size)⟩
    case pos =>
    have HF := Lib.hid hf
    have hf2 : srcFit A.dat.size zs ps = true ∧ sinkFit tzs A.room A.rd A.bk qs = true := by unfold fitB at hf; simpa using hf
    have hfa : FitA A.dat.size zs ps := ⟨hf2.1, HNN.out.1, HNN.out.2⟩
    obtain ⟨h8a, h8b⟩ := h8
    have k1 : decide ((A.pn : Int) ≥ 8) = false := by simp; omega
    have k2 : decide ((A.qn : Int) ≥ 8) = false := by simp; omega
    have k1' : decide ((8 : Int) ≤ A.pn) = false := by simp; omega
    have k2' : decide ((8 : Int) ≤ A.qn) = false := by simp; omega
    have hsz := sizeM_le n
    obtain ⟨m, hm⟩ : ∃ m, sizeM n = m := ⟨_, rfl⟩
    rw [hm] at hsz
    have hsT : ∀ wx : World, Calls Tryd.prog 15 #[.int .i64 n] wx (fun e w' => e = .returned (.int .i64 (m : Nat)) ∧ w' = wx) := fun wx => by rw [← hm]; exact sizeT n wx
    have HFA := Lib.hid (And.intro hfa hf2.2)
    have HST := Lib.hid hsT
    clear hf hf2 hfa hm hsT
    go_enter Tryd.func7, Tryd.ntmps7
    go_wp2_with fail
    rw [HWQ.out]
    refine (fitT HA.out HF.out).mono ?_
    rintro e w1 ⟨rfl, hb⟩
    have HB1 := Lib.hid hb
    obtain ⟨⟨c0, c1, c2, c3, c4, c5⟩, ⟨d0, d1, d2, d3, d4, d5⟩⟩ := HKEEP.out _ hb
    have HA1 := Lib.hid (HA.out.below hb)
    clear hb
    go_upto_region 5 with (at_builtin; go_must (refine wpList_append_row rfl _ _ 23 23 rfl 43 i0 zeroPipe 7 64 Tryd.underlying23 HY.out.1 HY.out.2.1 HY.out.2.2.1 HY.out.2.2.2 rfl rfl (Row.nil w1.heap.size _ _) A.pn (rowC ps) (Src.ofRd Tryd.underlying23 HA1.out.p.1.1 (rowC_one ps)) (by unfold maxLen; omega) (by omega) (Nat.le_refl _) ?_; intro a' c' W2 hrow hgr hbk9; rw [Nat.zero_add, List.nil_append] at hrow; have HWW2 := Lib.hid hrow; have HGW2 := Lib.hid hgr; clear hrow hgr hbk9))
    have hb9 := below_of_grown HGW2.out
    have HBW2 := Lib.hid hb9
    have c0 := cellAt hb9 c0
    have c1 := cellAt hb9 c1
    have c2 := cellAt hb9 c2
    have c3 := cellAt hb9 c3
    have c4 := cellAt hb9 c4
    have c5 := cellAt hb9 c5
    clear hb9
    go_upto_region 7 with (at_builtin; go_must (refine wpList_append_row (B := w1.heap.size) rfl _ _ 23 23 rfl 43 i0 zeroPipe 7 64 Tryd.underlying23 HY.out.1 HY.out.2.1 HY.out.2.2.1 HY.out.2.2.2 rfl rfl ((HWW2.out.alloc _).alloc _) 1 (newPp 1 0).cells (Src.ofRd Tryd.underlying23 (Rd.onePipeAt (W2.alloc (.cells #[.string A.dat, .slice A.sa A.sn A.sc, .bool A.early, .bool A.broken, .bool A.wr, .slice A.pa A.pn A.pc] 25)) 1 0 (by simp)) (cells_one _)) (by unfold maxLen; omega) (by omega) (by have := HBW2.out.size; simp; omega) ?_; intro a2 e2c W3 hrow hgr hbk9; have HWW3 := Lib.hid hrow; have HGW3 := Lib.hid hgr; have HKW3 := Lib.hid hbk9; clear hrow hgr hbk9; have hx3 := grownA HWW2.out HGW3.out; have s5 := hx3.cell 5 rfl; have sf5 := hx3.free 5 (by simp); clear hx3))
    obtain ⟨W4, he9⟩ : ∃ W4, W3.setCell ⟨W2.heap.size, 5, none⟩ (.slice a2 (A.pn + 1) e2c) = W4 := ⟨_, rfl⟩
    obtain ⟨hbe, hblk, hpe⟩ := grownB (j := 5) (op := 1) HA1.out.p HGW2.out HWW2.out HGW3.out HWW3.out HKW3.out he9
    rw [he9]
    have HBEW4 := Lib.hid hbe
    have HBLW4 := Lib.hid hblk
    have HPEW4 := Lib.hid hpe
    clear c0 c1 c2 c3 c4 c5 d0 d1 d2 d3 d4 d5 s5 sf5
    have HB4 := Lib.hid (HB1.out.trans (hbe.mono HB1.out.size))
    have HA4 := Lib.hid (HA1.out.below hbe)
    obtain ⟨sb, hsb⟩ : ∃ sb, W2.heap.size = sb := ⟨_, rfl⟩
    rw [hsb] at HBLW4 ⊢
    have t0 := HBLW4.out.cell 0 rfl
    have t1 := HBLW4.out.cell 1 rfl
    have t2 := HBLW4.out.cell 2 rfl
    have t3 := HBLW4.out.cell 3 rfl
    have t4 := HBLW4.out.cell 4 rfl
    have t5 := HBLW4.out.cell 5 rfl
    have hslt : sb < W4.heap.size := HBLW4.out.lt
    clear hsb
    clear hbe hblk hpe he9 HWW2 HGW2 HWW3 HGW3 HKW3 HBW2
    go_upto_region 9 with (fail)
    clear t0 t1 t2 t3 t4 t5 hslt
    obtain ⟨W4t, hw4t⟩ : ∃ W4t, W4.alloc (.cells #[.string A.dat, .slice A.sa A.sn A.sc, .bool A.early, .bool A.broken, .bool (!A.wr), .slice a2 (A.pn + 1) e2c] 25) = W4t := ⟨_, rfl⟩
    obtain ⟨tb, htb⟩ : ∃ tb, W4.heap.size = tb := ⟨_, rfl⟩
    obtain ⟨hbt, hbkt⟩ := oneBox hw4t
    rw [hw4t]
    rw [htb] at hbkt ⊢
    obtain ⟨R, hR⟩ : ∃ R, resOf { A with pa := a2, pn := A.pn + 1, pc := e2c } zs tzs (ps ++ [newPp 1 0]) qs m = R := ⟨_, rfl⟩
    have hR2 : resOf { A with pa := a2, pn := A.pn + 1, pc := e2c, wr := !A.wr } zs tzs (ps ++ [newPp 1 0]) qs m = R := by rw [← hR]; exact hidesS (A := { A with pa := a2, pn := A.pn + 1, pc := e2c })
    have hl8 : ps.length < 8 ∧ qs.length < 8 := by rw [HPL.out.1, HPL.out.2]; exact ⟨h8a, h8b⟩
    have HL4 := Lib.hid (HLQ.out.below HB4.out)
    have hax : ∀ wx : World, Below W4t.heap.size W4t wx → ArgsAt wx { A with pa := a2, pn := A.pn + 1, pc := e2c } zs tzs (ps ++ [newPp 1 0]) qs := fun wx hx => by
      have g : Step (fun _ => False) W4 free wx free := (Step.refl _ (fun _ _ => rfl)).calm (hbt.trans (hx.mono hbt.size))
      have h := HA4.out.below (hbt.trans (hx.mono hbt.size))
      exact ⟨h.z, HPEW4.out.step g, h.t, h.q⟩
    have h14s : ∀ wx : World, Below W4t.heap.size W4t wx → Calls Tryd.prog 14 #[.agg #[.string A.dat, .slice A.sa A.sn A.sc, .bool A.early, .bool A.broken, .bool A.wr, .slice a2 (A.pn + 1) e2c], .agg #[.slice A.ta A.tn A.tc, .int .i64 A.room, .bool A.over, .bool A.rd, .int .i64 A.bk, .slice A.qa A.qn A.qc], .int .i64 m] wx (TP R.1.tot R.2.1 R.2.2.toNat (bytesS R.1.t) ((sideTs R.1.l).map bytesS) (cntsOf R.1.l ++ cntsK R.1.k) R.1.s.k R.1.t.k R.1.s.left wx) := fun wx hx => copyNT (hax wx hx) (HL4.out.below (hbt.trans (hx.mono hbt.size))) (fitA_more HFA.out.1 hl8.1 (.inl rfl)) HFA.out.2 hsz.1 hsz.2 hR
    have h14t : ∀ wx : World, Below W4t.heap.size W4t wx → Calls Tryd.prog 14 #[.agg #[.string A.dat, .slice A.sa A.sn A.sc, .bool A.early, .bool A.broken, .bool (!A.wr), .slice a2 (A.pn + 1) e2c], .agg #[.slice A.ta A.tn A.tc, .int .i64 A.room, .bool A.over, .bool A.rd, .int .i64 A.bk, .slice A.qa A.qn A.qc], .int .i64 m] wx (TP R.1.tot R.2.1 R.2.2.toNat (bytesS R.1.t) ((sideTs R.1.l).map bytesS) (cntsOf R.1.l ++ cntsK R.1.k) R.1.s.k R.1.t.k R.1.s.left wx) := fun wx hx => copyNT (A := { A with pa := a2, pn := A.pn + 1, pc := e2c, wr := !A.wr }) ⟨(hax wx hx).z, (hax wx hx).p, (hax wx hx).t, (hax wx hx).q⟩ (HL4.out.below (hbt.trans (hx.mono hbt.size))) (fitA_more HFA.out.1 hl8.1 (.inl rfl)) HFA.out.2 hsz.1 hsz.2 hR2
    have hk9 : ∀ wx : World, Below W4t.heap.size W4t wx → (wx.cell? ⟨sb, 0, none⟩ = some (.string A.dat) ∧ wx.cell? ⟨sb, 1, none⟩ = some (.slice A.sa A.sn A.sc) ∧ wx.cell? ⟨sb, 2, none⟩ = some (.bool A.early) ∧ wx.cell? ⟨sb, 3, none⟩ = some (.bool A.broken) ∧ wx.cell? ⟨sb, 4, none⟩ = some (.bool A.wr) ∧ wx.cell? ⟨sb, 5, none⟩ = some (.slice a2 (A.pn + 1) e2c)) ∧ (wx.cell? ⟨w.heap.size + 1, 0, none⟩ = some (.slice A.ta A.tn A.tc) ∧ wx.cell? ⟨w.heap.size + 1, 1, none⟩ = some (.int .i64 A.room) ∧ wx.cell? ⟨w.heap.size + 1, 2, none⟩ = some (.bool A.over) ∧ wx.cell? ⟨w.heap.size + 1, 3, none⟩ = some (.bool A.rd) ∧ wx.cell? ⟨w.heap.size + 1, 4, none⟩ = some (.int .i64 A.bk) ∧ wx.cell? ⟨w.heap.size + 1, 5, none⟩ = some (.slice A.qa A.qn A.qc)) ∧ (wx.cell? ⟨tb, 0, none⟩ = some (.string A.dat) ∧ wx.cell? ⟨tb, 1, none⟩ = some (.slice A.sa A.sn A.sc) ∧ wx.cell? ⟨tb, 2, none⟩ = some (.bool A.early) ∧ wx.cell? ⟨tb, 3, none⟩ = some (.bool A.broken) ∧ wx.cell? ⟨tb, 4, none⟩ = some (.bool (!A.wr)) ∧ wx.cell? ⟨tb, 5, none⟩ = some (.slice a2 (A.pn + 1) e2c)) := fun wx hx => by
      have h1 := HBLW4.out.below (hbt.trans (hx.mono hbt.size))
      have h2 := hbkt.below hx
      exact ⟨⟨h1.cell 0 rfl, h1.cell 1 rfl, h1.cell 2 rfl, h1.cell 3 rfl, h1.cell 4 rfl, h1.cell 5 rfl⟩, (HKEEP.out wx (HB4.out.trans ((hbt.trans (hx.mono hbt.size)).mono HB4.out.size))).2, ⟨h2.cell 0 rfl, h2.cell 1 rfl, h2.cell 2 rfl, h2.cell 3 rfl, h2.cell 4 rfl, h2.cell 5 rfl⟩⟩
    have HK9 := Lib.hid hk9
    have H14S := Lib.hid h14s
    have H14T := Lib.hid h14t
    have HBT := Lib.hid hbt
    have HL8 := Lib.hid hl8
    clear hR hR2 hax h14s h14t hk9 hbt hbkt hw4t htb hl8 HB1 HBEW4 HA1
    go_region_held3 (fun wx : World => (wx.cell? ⟨sb, 0, none⟩ = some (.string A.dat) ∧ wx.cell? ⟨sb, 1, none⟩ = some (.slice A.sa A.sn A.sc) ∧ wx.cell? ⟨sb, 2, none⟩ = some (.bool A.early) ∧ wx.cell? ⟨sb, 3, none⟩ = some (.bool A.broken) ∧ wx.cell? ⟨sb, 4, none⟩ = some (.bool A.wr) ∧ wx.cell? ⟨sb, 5, none⟩ = some (.slice a2 (A.pn + 1) e2c)) ∧ (wx.cell? ⟨w.heap.size + 1, 0, none⟩ = some (.slice A.ta A.tn A.tc) ∧ wx.cell? ⟨w.heap.size + 1, 1, none⟩ = some (.int .i64 A.room) ∧ wx.cell? ⟨w.heap.size + 1, 2, none⟩ = some (.bool A.over) ∧ wx.cell? ⟨w.heap.size + 1, 3, none⟩ = some (.bool A.rd) ∧ wx.cell? ⟨w.heap.size + 1, 4, none⟩ = some (.int .i64 A.bk) ∧ wx.cell? ⟨w.heap.size + 1, 5, none⟩ = some (.slice A.qa A.qn A.qc)) ∧ (wx.cell? ⟨tb, 0, none⟩ = some (.string A.dat) ∧ wx.cell? ⟨tb, 1, none⟩ = some (.slice A.sa A.sn A.sc) ∧ wx.cell? ⟨tb, 2, none⟩ = some (.bool A.early) ∧ wx.cell? ⟨tb, 3, none⟩ = some (.bool A.broken) ∧ wx.cell? ⟨tb, 4, none⟩ = some (.bool (!A.wr)) ∧ wx.cell? ⟨tb, 5, none⟩ = some (.slice a2 (A.pn + 1) e2c)))
      (first | exact HK9.out _ (Below.refl _ _) | exact HK9.out _ (Below.refl _ _).drew | exact HK9.out _ HBC.out | exact HK9.out _ HBB.out | exact HK9.out _ HBA.out)
      (first
        | (go_simp; go_at_call 15; refine (HST.out _).mono ?_; rintro e15 w15 ⟨rfl, rfl⟩)
        | (go_simp; go_at_call 14; (with_reducible refine (H14S.out _ (Below.refl _ _).drew).mono ?_); rintro eA wA h9; obtain ⟨vA, rfl, hbA, hvA⟩ := h9.copied; have HBA := Lib.hid ((Below.refl W4t.heap.size W4t).drew.trans hbA); have HVA := Lib.hid hvA; clear hbA hvA h9)
        | (go_simp; go_at_call 14; (with_reducible refine (H14T.out _ HBA.out).mono ?_); rintro eB wB h9; obtain ⟨vB, rfl, hbB, hvB⟩ := h9.copied; have HBB := Lib.hid (HBA.out.trans (hbB.mono HBA.out.size)); have HVA := Lib.hid (HVA.out.below hbB); have HVB := Lib.hid hvB; clear hbB hvB h9)
        | (go_simp; go_at_call 13; refine (sameT HVA.out HVB.out).mono ?_; rintro eC wC ⟨rfl, hbC⟩; have HBC := Lib.hid (HBB.out.trans (hbC.mono HBB.out.size)); clear hbC))
    have hbc : Below W4.heap.size W4 wC := HBT.out.trans (HBC.out.mono HBT.out.size)
    have HBC4 := Lib.hid (HB4.out.trans (hbc.mono HB4.out.size))
    have HAC := Lib.hid (HA4.out.below hbc)
    have HLC := Lib.hid (HL4.out.below hbc)
    have HSC := Lib.hid (HBLW4.out.below hbc)
    have g9 : Step (fun _ => False) W4 free wC free := (Step.refl _ (fun _ _ => rfl)).calm hbc
    have HPC := Lib.hid (HPEW4.out.step g9)
    obtain ⟨⟨_, _, _, _, _, _⟩, ⟨d0, d1, d2, d3, d4, d5⟩⟩ := HKEEP.out _ HBC4.out
    clear hbc g9 HK9 H14S H14T HBT HVA HVB HBA HBB HBC HB4 HA4 HL4 HBLW4 HPEW4
    go_upto_region 12 with (fail)
    go_upto_region 13 with (at_builtin; go_must (refine wpList_append_row rfl _ _ 23 23 rfl 43 i0 zeroPipe 7 64 Tryd.underlying23 HY.out.1 HY.out.2.1 HY.out.2.2.1 HY.out.2.2.2 rfl rfl (Row.nil wC.heap.size _ _) A.qn (rowC qs) (Src.ofRd Tryd.underlying23 HAC.out.q.1.1 (rowC_one qs)) (by unfold maxLen; omega) (by omega) (Nat.le_refl _) ?_; intro q' g' W5 hrow hgr hbk9; rw [Nat.zero_add, List.nil_append] at hrow; have HWW5 := Lib.hid hrow; have HGW5 := Lib.hid hgr; clear hrow hgr hbk9))
    have hb9 := below_of_grown HGW5.out
    have HBW5 := Lib.hid hb9
    have d0 := cellAt hb9 d0
    have d1 := cellAt hb9 d1
    have d2 := cellAt hb9 d2
    have d3 := cellAt hb9 d3
    have d4 := cellAt hb9 d4
    have d5 := cellAt hb9 d5
    clear hb9
    go_upto_region 15 with (at_builtin; go_must (refine wpList_append_row (B := wC.heap.size) rfl _ _ 23 23 rfl 43 i0 zeroPipe 7 64 Tryd.underlying23 HY.out.1 HY.out.2.1 HY.out.2.2.1 HY.out.2.2.2 rfl rfl ((HWW5.out.alloc _).alloc _) 1 (newPp 1 0).cells (Src.ofRd Tryd.underlying23 (Rd.onePipeAt (W5.alloc (.cells #[.slice A.ta A.tn A.tc, .int .i64 A.room, .bool A.over, .bool A.rd, .int .i64 A.bk, .slice A.qa A.qn A.qc] 29)) 1 0 (by simp)) (cells_one _)) (by unfold maxLen; omega) (by omega) (by have := HBW5.out.size; simp; omega) ?_; intro q2 g2 W6 hrow hgr hbk9; have HWW6 := Lib.hid hrow; have HGW6 := Lib.hid hgr; have HKW6 := Lib.hid hbk9; clear hrow hgr hbk9; have hx3 := grownA HWW5.out HGW6.out; have s5 := hx3.cell 5 rfl; have sf5 := hx3.free 5 (by simp); clear hx3))
    obtain ⟨W7, he9⟩ : ∃ W7, W6.setCell ⟨W5.heap.size, 5, none⟩ (.slice q2 (A.qn + 1) g2) = W7 := ⟨_, rfl⟩
    obtain ⟨hbe, hblk, hpe⟩ := grownB (j := 5) (op := 1) HAC.out.q HGW5.out HWW5.out HGW6.out HWW6.out HKW6.out he9
    rw [he9]
    have HBEW7 := Lib.hid hbe
    have HBLW7 := Lib.hid hblk
    have HPEW7 := Lib.hid hpe
    clear d0 d1 d2 d3 d4 d5 s5 sf5
    have HB7 := Lib.hid (HBC4.out.trans (hbe.mono HBC4.out.size))
    have HA7 := Lib.hid (HAC.out.below hbe)
    have HL7 := Lib.hid (HLC.out.below hbe)
    have HS7 := Lib.hid (HSC.out.below hbe)
    have g7 : Step (fun _ => False) wC free W7 free := (Step.refl _ (fun _ _ => rfl)).calm hbe
    have HP7 := Lib.hid (HPC.out.step g7)
    obtain ⟨db, hdb⟩ : ∃ db, W5.heap.size = db := ⟨_, rfl⟩
    rw [hdb] at HBLW7 ⊢
    have t0 := HBLW7.out.cell 0 rfl
    have t1 := HBLW7.out.cell 1 rfl
    have t2 := HBLW7.out.cell 2 rfl
    have t3 := HBLW7.out.cell 3 rfl
    have t4 := HBLW7.out.cell 4 rfl
    have t5 := HBLW7.out.cell 5 rfl
    have hslt : db < W7.heap.size := HBLW7.out.lt
    clear hdb g7
    clear hbe hblk hpe he9 HWW5 HGW5 HWW6 HGW6 HKW6 HBW5
    go_upto_region 18 with (fail)
    clear t0 t1 t2 t3 t4 t5 hslt
    obtain ⟨W8, hw8⟩ : ∃ W8, W7.alloc (.cells #[.slice A.ta A.tn A.tc, .int .i64 A.room, .bool A.over, .bool false, .int .i64 0, .slice q2 (A.qn + 1) g2] 29) = W8 := ⟨_, rfl⟩
    obtain ⟨eb9, heb9⟩ : ∃ eb9, W7.heap.size = eb9 := ⟨_, rfl⟩
    obtain ⟨hbt, hbkt⟩ := oneBox hw8
    rw [hw8]
    rw [heb9] at hbkt ⊢
    obtain ⟨R, hR⟩ : ∃ R, resOf { A with qa := q2, qn := A.qn + 1, qc := g2 } zs tzs ps (qs ++ [newPp 1 0]) m = R := ⟨_, rfl⟩
    have hR2 : resOf { A with qa := q2, qn := A.qn + 1, qc := g2, rd := false, bk := 0 } zs tzs ps (qs ++ [newPp 1 0]) m = R := by rw [← hR]; exact hidesK (A := { A with qa := q2, qn := A.qn + 1, qc := g2 })
    have hax : ∀ wx : World, Below W8.heap.size W8 wx → ArgsAt wx { A with qa := q2, qn := A.qn + 1, qc := g2 } zs tzs ps (qs ++ [newPp 1 0]) ∧ Pipes wx free a2 (A.pn + 1) e2c (ps ++ [newPp 1 0]) := fun wx hx => by
      have g : Step (fun _ => False) W7 free wx free := (Step.refl _ (fun _ _ => rfl)).calm (hbt.trans (hx.mono hbt.size))
      have h := HA7.out.below (hbt.trans (hx.mono hbt.size))
      exact ⟨⟨h.z, h.p, h.t, HPEW7.out.step g⟩, HP7.out.step g⟩
    have hsk := sinkFit_more HFA.out.2 HL8.out.2 (.inl rfl)
    have h14s : ∀ wx : World, Below W8.heap.size W8 wx → Calls Tryd.prog 14 #[.agg #[.string A.dat, .slice A.sa A.sn A.sc, .bool A.early, .bool A.broken, .bool A.wr, .slice A.pa A.pn A.pc], .agg #[.slice A.ta A.tn A.tc, .int .i64 A.room, .bool A.over, .bool A.rd, .int .i64 A.bk, .slice q2 (A.qn + 1) g2], .int .i64 m] wx (TP R.1.tot R.2.1 R.2.2.toNat (bytesS R.1.t) ((sideTs R.1.l).map bytesS) (cntsOf R.1.l ++ cntsK R.1.k) R.1.s.k R.1.t.k R.1.s.left wx) := fun wx hx => copyNT (hax wx hx).1 (HL7.out.below (hbt.trans (hx.mono hbt.size))) HFA.out.1 hsk hsz.1 hsz.2 hR
    have h14t : ∀ wx : World, Below W8.heap.size W8 wx → Calls Tryd.prog 14 #[.agg #[.string A.dat, .slice A.sa A.sn A.sc, .bool A.early, .bool A.broken, .bool A.wr, .slice A.pa A.pn A.pc], .agg #[.slice A.ta A.tn A.tc, .int .i64 A.room, .bool A.over, .bool false, .int .i64 0, .slice q2 (A.qn + 1) g2], .int .i64 m] wx (TP R.1.tot R.2.1 R.2.2.toNat (bytesS R.1.t) ((sideTs R.1.l).map bytesS) (cntsOf R.1.l ++ cntsK R.1.k) R.1.s.k R.1.t.k R.1.s.left wx) := fun wx hx => copyNT (A := { A with qa := q2, qn := A.qn + 1, qc := g2, rd := false, bk := 0 }) ⟨(hax wx hx).1.z, (hax wx hx).1.p, (hax wx hx).1.t, (hax wx hx).1.q⟩ (HL7.out.below (hbt.trans (hx.mono hbt.size))) HFA.out.1 (hides_turn hsk rfl) hsz.1 hsz.2 hR2
    have hd9 : A.dat.size ≤ 65535 ∧ ∀ x ∈ ps ++ [newPp 1 0], x.rd = false := by
      obtain ⟨p, a1, a2, a3, a4, a5, a6⟩ := fit_src (d := A.dat.data.toList) A.early A.broken (show FitA A.dat.data.toList.length zs ps by rw [Array.length_toList]; exact HFA.out.1)
      refine ⟨?_, fun x hx => ?_⟩
      · have := a1.2.2.2
        have h3 : A.dat.data.toList.length = A.dat.size := Array.length_toList
        dsimp only [srcOf] at this
        omega
      · rcases List.mem_append.1 hx with hx | hx
        · exact a5 x hx
        · simp only [List.mem_singleton] at hx
          subst hx
          rfl
    have h18 : ∀ wx : World, Below W8.heap.size W8 wx → Calls Tryd.prog 18 #[.agg #[.string A.dat, .slice A.sa A.sn A.sc, .bool A.early, .bool A.broken, .bool A.wr, .slice a2 (A.pn + 1) e2c], .agg #[.slice A.ta A.tn A.tc, .int .i64 A.room, .bool A.over, .bool A.rd, .int .i64 A.bk, .slice q2 (A.qn + 1) g2]] wx (RV wx (.int .i64 0)) := fun wx hx =>
      wayN (v := 0) (hax wx hx).1.z (hax wx hx).2 (hax wx hx).1.t (hax wx hx).1.q hd9.2 (by omega) (by show A.qn + 1 ≤ 10; omega) hd9.1 (by unfold wayM; rw [onlyB_more, onlyB_more]; simp)
    have hk9 : ∀ wx : World, Below W8.heap.size W8 wx → (wx.cell? ⟨sb, 0, none⟩ = some (.string A.dat) ∧ wx.cell? ⟨sb, 1, none⟩ = some (.slice A.sa A.sn A.sc) ∧ wx.cell? ⟨sb, 2, none⟩ = some (.bool A.early) ∧ wx.cell? ⟨sb, 3, none⟩ = some (.bool A.broken) ∧ wx.cell? ⟨sb, 4, none⟩ = some (.bool A.wr) ∧ wx.cell? ⟨sb, 5, none⟩ = some (.slice a2 (A.pn + 1) e2c)) ∧ (wx.cell? ⟨db, 0, none⟩ = some (.slice A.ta A.tn A.tc) ∧ wx.cell? ⟨db, 1, none⟩ = some (.int .i64 A.room) ∧ wx.cell? ⟨db, 2, none⟩ = some (.bool A.over) ∧ wx.cell? ⟨db, 3, none⟩ = some (.bool A.rd) ∧ wx.cell? ⟨db, 4, none⟩ = some (.int .i64 A.bk) ∧ wx.cell? ⟨db, 5, none⟩ = some (.slice q2 (A.qn + 1) g2)) ∧ (wx.cell? ⟨w.heap.size, 0, none⟩ = some (.string A.dat) ∧ wx.cell? ⟨w.heap.size, 1, none⟩ = some (.slice A.sa A.sn A.sc) ∧ wx.cell? ⟨w.heap.size, 2, none⟩ = some (.bool A.early) ∧ wx.cell? ⟨w.heap.size, 3, none⟩ = some (.bool A.broken) ∧ wx.cell? ⟨w.heap.size, 4, none⟩ = some (.bool A.wr) ∧ wx.cell? ⟨w.heap.size, 5, none⟩ = some (.slice A.pa A.pn A.pc)) ∧ (wx.cell? ⟨eb9, 0, none⟩ = some (.slice A.ta A.tn A.tc) ∧ wx.cell? ⟨eb9, 1, none⟩ = some (.int .i64 A.room) ∧ wx.cell? ⟨eb9, 2, none⟩ = some (.bool A.over) ∧ wx.cell? ⟨eb9, 3, none⟩ = some (.bool false) ∧ wx.cell? ⟨eb9, 4, none⟩ = some (.int .i64 0) ∧ wx.cell? ⟨eb9, 5, none⟩ = some (.slice q2 (A.qn + 1) g2)) := fun wx hx => by
      have hx7 := hbt.trans (hx.mono hbt.size)
      have h1 := HS7.out.below hx7
      have h2 := HBLW7.out.below hx7
      have h3 := hbkt.below hx
      exact ⟨⟨h1.cell 0 rfl, h1.cell 1 rfl, h1.cell 2 rfl, h1.cell 3 rfl, h1.cell 4 rfl, h1.cell 5 rfl⟩, ⟨h2.cell 0 rfl, h2.cell 1 rfl, h2.cell 2 rfl, h2.cell 3 rfl, h2.cell 4 rfl, h2.cell 5 rfl⟩, (HKEEP.out wx (HB7.out.trans (hx7.mono HB7.out.size))).1, ⟨h3.cell 0 rfl, h3.cell 1 rfl, h3.cell 2 rfl, h3.cell 3 rfl, h3.cell 4 rfl, h3.cell 5 rfl⟩⟩
    have h12 : ∀ wx : World, Below W8.heap.size W8 wx → Calls Tryd.prog 12 #[] wx (RV wx (.bool true)) := fun wx hx => HAWK.out wx (HB7.out.trans ((hbt.trans (hx.mono hbt.size)).mono HB7.out.size))
    have HK9 := Lib.hid hk9
    have H14S := Lib.hid h14s
    have H14T := Lib.hid h14t
    have H18 := Lib.hid h18
    have H12 := Lib.hid h12
    have HBT := Lib.hid (HB7.out.trans (hbt.mono HB7.out.size))
    clear hR hR2 hax h14s h14t hk9 hbt hbkt hw8 heb9 hsk hd9 h18 h12
    go_region_held3 (fun wx : World => (wx.cell? ⟨sb, 0, none⟩ = some (.string A.dat) ∧ wx.cell? ⟨sb, 1, none⟩ = some (.slice A.sa A.sn A.sc) ∧ wx.cell? ⟨sb, 2, none⟩ = some (.bool A.early) ∧ wx.cell? ⟨sb, 3, none⟩ = some (.bool A.broken) ∧ wx.cell? ⟨sb, 4, none⟩ = some (.bool A.wr) ∧ wx.cell? ⟨sb, 5, none⟩ = some (.slice a2 (A.pn + 1) e2c)) ∧ (wx.cell? ⟨db, 0, none⟩ = some (.slice A.ta A.tn A.tc) ∧ wx.cell? ⟨db, 1, none⟩ = some (.int .i64 A.room) ∧ wx.cell? ⟨db, 2, none⟩ = some (.bool A.over) ∧ wx.cell? ⟨db, 3, none⟩ = some (.bool A.rd) ∧ wx.cell? ⟨db, 4, none⟩ = some (.int .i64 A.bk) ∧ wx.cell? ⟨db, 5, none⟩ = some (.slice q2 (A.qn + 1) g2)) ∧ (wx.cell? ⟨w.heap.size, 0, none⟩ = some (.string A.dat) ∧ wx.cell? ⟨w.heap.size, 1, none⟩ = some (.slice A.sa A.sn A.sc) ∧ wx.cell? ⟨w.heap.size, 2, none⟩ = some (.bool A.early) ∧ wx.cell? ⟨w.heap.size, 3, none⟩ = some (.bool A.broken) ∧ wx.cell? ⟨w.heap.size, 4, none⟩ = some (.bool A.wr) ∧ wx.cell? ⟨w.heap.size, 5, none⟩ = some (.slice A.pa A.pn A.pc)) ∧ (wx.cell? ⟨eb9, 0, none⟩ = some (.slice A.ta A.tn A.tc) ∧ wx.cell? ⟨eb9, 1, none⟩ = some (.int .i64 A.room) ∧ wx.cell? ⟨eb9, 2, none⟩ = some (.bool A.over) ∧ wx.cell? ⟨eb9, 3, none⟩ = some (.bool false) ∧ wx.cell? ⟨eb9, 4, none⟩ = some (.int .i64 0) ∧ wx.cell? ⟨eb9, 5, none⟩ = some (.slice q2 (A.qn + 1) g2)))
      (first | exact HK9.out _ (Below.refl _ _) | exact HK9.out _ (Below.refl _ _).drew | exact HK9.out _ HBE.out | exact HK9.out _ HBD.out | exact HK9.out _ HBC.out | exact HK9.out _ HBB.out | exact HK9.out _ HBA.out)
      (first
        | (go_simp; go_at_call 15; refine (HST.out _).mono ?_; rintro e15 w15 ⟨rfl, rfl⟩)
        | (go_simp; go_at_call 18; refine (H18.out _ (Below.refl _ _).drew).mono ?_; rintro eA wA ⟨rfl, hbA⟩; have HBA := Lib.hid ((Below.refl W8.heap.size W8).drew.trans hbA); clear hbA)
        | (go_simp; go_at_call 14; (with_reducible refine (H14S.out _ HBA.out).mono ?_); rintro eB wB h9; obtain ⟨vB, rfl, hbB, hvB⟩ := h9.copied; have HBB := Lib.hid (HBA.out.trans (hbB.mono HBA.out.size)); have HVB := Lib.hid hvB; clear hbB hvB h9)
        | (go_simp; go_at_call 14; (with_reducible refine (H14T.out _ HBB.out).mono ?_); rintro eC wC9 h9; obtain ⟨vC, rfl, hbC, hvC⟩ := h9.copied; have HBC := Lib.hid (HBB.out.trans (hbC.mono HBB.out.size)); have HVB := Lib.hid (HVB.out.below hbC); have HVC := Lib.hid hvC; clear hbC hvC h9)
        | (go_simp; go_at_call 13; refine (sameT HVB.out HVC.out).mono ?_; rintro eD wD ⟨rfl, hbD⟩; have HBD := Lib.hid (HBC.out.trans (hbD.mono HBC.out.size)); clear hbD)
        | (go_simp; go_at_call 12; refine (H12.out _ HBD.out).mono ?_; rintro eE wE ⟨rfl, hbE⟩; have HBE := Lib.hid (HBD.out.trans (hbE.mono HBD.out.size)); clear hbE))
    all_goals
      go_wp2
      go_ret
      exact ⟨rfl, HBW.out.trans ((HBT.out.trans (HBE.out.mono HBT.out.size)).mono HBW.out.size)⟩
end Go.Proofs.YtigfgdefgnahpaaDoor
