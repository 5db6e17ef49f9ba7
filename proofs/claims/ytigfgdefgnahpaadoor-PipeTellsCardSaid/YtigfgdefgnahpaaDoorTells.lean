/-
  The walk of PipeTells. Not a statement of the seat.
-/
import Derived.Test.YtigfgdefgnahpaaDoorLosesPure
import Derived.Deep.CutRange
namespace Go.Proofs.YtigfgdefgnahpaaDoor
open Go.RowKit

/-- a record in a box; its first row lies outside of the box -/
def RecX (n : Nat) (e : Int) (way : Nat) (d : ByteArray) (ss : List ByteArray) (cs : List Int) (k wk left : Nat) (wb : World) (v : Value) (wx : World) : Prop :=
  ∃ cb a1 n1 c1 a2 n2 c2, v = .pointer (some ⟨cb, 0, none⟩) ∧ Below wb.heap.size wb wx ∧ wb.heap.size ≤ cb ∧ Blk wx cb [.int .i64 n, .int .i64 e, .int .i64 way, .string d, .slice a1 n1 c1, .slice a2 n2 c2, .int .i64 k, .int .i64 wk, .int .i64 left] ∧
    Rd wx 1 a1 n1 c1 (ss.map Value.string) ∧ Rd wx 1 a2 n2 c2 (I3 cs) ∧ ∀ i u, Rd (wx.setCell ⟨cb, i, none⟩ u) 1 a1 n1 c1 (ss.map Value.string)
section
variable {n way k wk left : Nat} {e : Int} {d : ByteArray} {ss : List ByteArray} {cs : List Int} {wb wA : World} {a1 a2 : Option Addr} {n1 c1 n2 c2 : Nat}
theorem RecX.a (hb : Below wb.heap.size wb wA) (r1 : Rd wA 1 a1 n1 c1 (ss.map Value.string)) (r2 : Rd wA 1 a2 n2 c2 (I3 cs)) :
    RecX n e way d ss cs k wk left wb (.pointer (some ⟨wA.heap.size, 0, none⟩)) (wA.alloc (.cells #[.int .i64 (n : Int), .int .i64 e, .int .i64 (way : Int), .string d, .slice a1 n1 c1, .slice a2 n2 c2, .int .i64 (k : Int), .int .i64 (wk : Int), .int .i64 (left : Int)] 37)) :=
  ⟨_, a1, n1, c1, a2, n2, c2, rfl, hb.alloc hb.size _, hb.size, Blk.new _ _ _, r1.alloc _, r2.alloc _, fun i u => r1.below (((Below.refl wA.heap.size wA).alloc (Nat.le_refl _) _).setCell (p := ⟨wA.heap.size, i, none⟩) (Nat.le_refl _) u)⟩
theorem RecX.b {x0 x1 x2 x3 x4 x5 x6 x7 x8 : Value} (hb : Below wb.heap.size wb wA) (hz : Blk wA wb.heap.size [x0, x1, x2, x3, x4, x5, x6, x7, x8]) (r1 : Rd wA 1 a1 n1 c1 (ss.map Value.string)) (r2 : Rd wA 1 a2 n2 c2 (I3 cs)) (f1 : ∀ x, blockOf a1 = some x → wb.heap.size + 1 ≤ x) (f2 : ∀ x, blockOf a2 = some x → wb.heap.size + 1 ≤ x) :
    RecX n e way d ss cs k wk left wb (.pointer (some ⟨wb.heap.size, 0, none⟩)) (((((((((wA.setCell ⟨wb.heap.size, 0, none⟩ (.int .i64 (n : Int))).setCell ⟨wb.heap.size, 1, none⟩ (.int .i64 e)).setCell ⟨wb.heap.size, 2, none⟩ (.int .i64 (way : Int))).setCell ⟨wb.heap.size, 3, none⟩ (.string d)).setCell ⟨wb.heap.size, 4, none⟩ (.slice a1 n1 c1)).setCell ⟨wb.heap.size, 5, none⟩ (.slice a2 n2 c2)).setCell ⟨wb.heap.size, 6, none⟩ (.int .i64 (k : Int))).setCell ⟨wb.heap.size, 7, none⟩ (.int .i64 (wk : Int))).setCell ⟨wb.heap.size, 8, none⟩ (.int .i64 (left : Int))) :=
  ⟨_, a1, n1, c1, a2, n2, c2, rfl, Below.put9 hb (Nat.le_refl _) _ _ _ _ _ _ _ _ _, Nat.le_refl _, Blk.put9 hz _ _ _ _ _ _ _ _ _,
    Rd.put9' r1 (fun e => by have := f1 _ e; omega) _ _ _ _ _ _ _ _ _, Rd.put9' r2 (fun e => by have := f2 _ e; omega) _ _ _ _ _ _ _ _ _,
    fun i u => (Rd.put9' r1 (fun e => by have := f1 _ e; omega) _ _ _ _ _ _ _ _ _).kept (grownBy_setAt _ ⟨wb.heap.size, i, none⟩ u) (.inl (fun e => by have h9 : wb.heap.size + 1 ≤ wb.heap.size := f1 _ e; omega))⟩
end
/-- a count more at the source and at the sink -/
theorem tells_more {A : Sa} {zs tzs : List Int} {ps qs : List Pp} {m : Nat} {a b : Option Addr} {an ac bn bc : Nat} :
    More (resOf A zs tzs ps qs m).1 (resOf { A with pa := a, pn := an, pc := ac, qa := b, qn := bn, qc := bc } zs tzs (ps ++ [newPp 2 0]) (qs ++ [newPp 2 0]) m).1 ∧ (resOf { A with pa := a, pn := an, pc := ac, qa := b, qn := bn, qc := bc } zs tzs (ps ++ [newPp 2 0]) (qs ++ [newPp 2 0]) m).2 = (resOf A zs tzs ps qs m).2 := by
  unfold resOf
  refine copyM_more ⟨⟨(newPp 2 0).fresh, rfl, ?_⟩, rfl, ⟨(newPp 2 0).kw, rfl, ?_⟩, rfl, rfl⟩
  · show upto (ps ++ [newPp 2 0]) (ps ++ [newPp 2 0]).length = _
    rw [List.length_append]
    exact upto_more rfl
  · show uptoK (qs ++ [newPp 2 0]) (qs ++ [newPp 2 0]).length = _
    rw [List.length_append]
    exact uptoK_more rfl
theorem more_told {c d : Cp} (h : More c d) : d.tot = c.tot ∧ d.s = c.s ∧ d.t = c.t ∧ sideTs d.l = sideTs c.l ∧ (cntsOf d.l ++ cntsK d.k).length = (cntsOf c.l ++ cntsK c.k).length + 2 := by
  obtain ⟨⟨x, hx, hl⟩, hs, ⟨y, hy, hk⟩, ht, htot⟩ := h
  refine ⟨htot, hs, ht, ?_, ?_⟩
  · rw [hl]
    simp only [sideTs, hx]
    rfl
  · rw [hl, hk]
    simp only [cntsOf, cntsK, hx, hy, if_true, List.length_append, List.length_singleton]
    omega
theorem Rd.onePipeAt (w : World) (op n : Int) {g : Nat} (hg : g = w.heap.size) : Rd (w.alloc (.cells #[.int .i64 op, .int .i64 n, .slice none 0 0, .int .i64 0, .bool false, .bool false, .int .i64 0] 43)) 7 (some ⟨g, 0, none⟩) 1 1 (newPp op n).cells := by
  subst hg
  exact Rd.onePipe w op n
theorem grownA {Wb Wd : World} {B n c : Nat} {a' : Option Addr} {xs : List Value} {cs : Array Value} {t : TypeId} {o : Obj} (hrb : Row B Wb 7 a' n c xs) (hgd : ((Wb.alloc (.cells cs t)).alloc o).grownBy Wd (blockOf a')) : Blk Wd Wb.heap.size cs.toList :=
  ((Blk.new Wb cs t).alloc o).grown hgd (fun e => by have := (hrb.lt _ e).2; omega)
/-- a wrapper more, in new memory, and its row laid into a new box -/
theorem grownB {Wa Wb Wd We : World} {pn c' c2 pc j : Nat} {pa a' a2 : Option Addr} {ps : List Pp} {op : Int} {cs : Array Value} {t : TypeId} {o : Obj} (hP : Pipes Wa free pa pn pc ps) (hgb : Wa.grownBy Wb none) (hrb : Row Wa.heap.size Wb 7 a' pn c' (rowC ps)) (hgd : ((Wb.alloc (.cells cs t)).alloc o).grownBy Wd (blockOf a'))
    (hrd : Row Wa.heap.size Wd 7 a2 (pn + 1) c2 (rowC ps ++ (newPp op 0).cells)) (hbk : blockOf a2 = blockOf a' ∨ blockOf a2 = some ((Wb.alloc (.cells cs t)).alloc o).heap.size) (he : Wd.setCell ⟨Wb.heap.size, j, none⟩ (.slice a2 (pn + 1) c2) = We) :
    Below Wa.heap.size Wa We ∧ Blk We Wb.heap.size (cs.toList.set j (.slice a2 (pn + 1) c2)) ∧ Pipes We free a2 (pn + 1) c2 (ps ++ [newPp op 0]) := by
  have hB := grownA hrb hgd
  have hab := below_of_grown hgb
  have h1 : Below Wa.heap.size Wa ((Wb.alloc (.cells cs t)).alloc o) := (hab.alloc hab.size _).alloc (by rw [sz_alloc]; have := hab.size; omega) _
  have h2 : Below Wa.heap.size ((Wb.alloc (.cells cs t)).alloc o) Wd := below_of_grownAt hgd (fun b hb => (hrb.lt b hb).1) (by rw [sz_alloc, sz_alloc]; have := hab.size; omega)
  have h3 : Below Wa.heap.size Wa We := by rw [← he]; exact (h1.trans h2).setCell (p := ⟨Wb.heap.size, j, none⟩) hab.size _
  have hne : blockOf a2 ≠ some Wb.heap.size := fun e9 => by
    rcases hbk with h | h
    · rw [h] at e9
      have := (hrb.lt _ e9).2
      omega
    · rw [h] at e9
      simp only [sz_alloc, Option.some.injEq] at e9
      omega
  refine ⟨h3, ?_, hP.more h3 (B := Wa.heap.size) ?_⟩
  · rw [← he]; exact hB.set (j := j) _
  · rw [← he]; exact hrd.kept (grownBy_setAt _ ⟨Wb.heap.size, j, none⟩ _) (.inl hne)

set_option maxRecDepth 100000 in
set_option maxHeartbeats 8000000 in
theorem tellsT {A : Sa} {zs tzs : List Int} {ps qs : List Pp} {eb : Nat} {n : Int} {w : World} (hA : ArgsAt w A zs tzs ps qs) (hL : Laid eb w) (hn : ∀ x ∈ ps, -9223372036854775808 ≤ x.n ∧ x.n ≤ 9223372036854775807) (hl : ∀ x ∈ ps, x.zs.length = x.sn) :
    Calls Tryd.prog 6 #[.agg #[.string A.dat, .slice A.sa A.sn A.sc, .bool A.early, .bool A.broken, .bool A.wr, .slice A.pa A.pn A.pc], .agg #[.slice A.ta A.tn A.tc, .int .i64 A.room, .bool A.over, .bool A.rd, .int .i64 A.bk, .slice A.qa A.qn A.qc], .int .i64 n] w (RV w (.bool true)) := by
  obtain ⟨i0, hy0, hy1, hy2, hy3⟩ := pipeInfo
  obtain ⟨wq, hwq⟩ : ∃ wq, (w.alloc (.cells #[.string A.dat, .slice A.sa A.sn A.sc, .bool A.early, .bool A.broken, .bool A.wr, .slice A.pa A.pn A.pc] 25)).alloc (.cells #[.slice A.ta A.tn A.tc, .int .i64 A.room, .bool A.over, .bool A.rd, .int .i64 A.bk, .slice A.qa A.qn A.qc] 29) = wq := ⟨_, rfl⟩
  obtain ⟨hbw, hb1, hb2⟩ := twoBoxes _ _ _ _ _ _ _ _ _ _ _ _ _ _ _ hwq
  have hbox : Boxed w.heap.size (w.heap.size + 1) A wq := wayKeep hb1 hb2
  have hAq := hA.below hbw
  have hLq := hL.below hbw
  have hkeep : ∀ wx : World, Below wq.heap.size wq wx → Boxed w.heap.size (w.heap.size + 1) A wx := fun wx hx => hbox.below hx
  have hawk : ∀ wx : World, Below wq.heap.size wq wx → Calls Tryd.prog 12 #[] wx (RV wx (.bool true)) := fun wx hx => awakeT (hLq.below hx)
  have hpl := hAq.p.len
  have hql := hAq.q.len
  have HKEEP := Lib.hid hkeep
  have HAWK := Lib.hid hawk
  have HA := Lib.hid hAq
  have HLQ := Lib.hid hLq
  have HBW := Lib.hid hbw
  have HWQ := Lib.hid hwq
  have HNN := Lib.hid (And.intro hn hl)
  have HPL := Lib.hid (And.intro hpl hql)
  have HY := Lib.hid (And.intro hy0 (And.intro hy1 (And.intro hy2 hy3)))
  have hpc := hAq.p.1.1.le
  have hqc := hAq.q.1.1.le
  obtain ⟨⟨c0, c1, c2, c3, c4, c5⟩, ⟨d0, d1, d2, d3, d4, d5⟩⟩ := hbox
  clear hA hbw hb1 hb2 hL hn hl hAq hLq hkeep hawk hwq hpl hql hy0 hy1 hy2 hy3
  cases hf : fitB A zs tzs ps qs
  · have HF := Lib.hid hf
    clear hf
    go_enter Tryd.func6, Tryd.ntmps6
    go_wp2_with fail
    rw [HWQ.out]
    refine (fitT HA.out HF.out).mono ?_
    rintro e w1 ⟨rfl, hb⟩
    have HB := Lib.hid hb
    clear hb
    go_wp2_with fail
    refine (HAWK.out _ HB.out).mono ?_
    rintro e w2 ⟨rfl, hb⟩
    have HB2 := Lib.hid (HB.out.trans (hb.mono HB.out.size))
    clear hb
    go_wp2
    go_ret
    exact ⟨rfl, HBW.out.trans (HB2.out.mono HBW.out.size)⟩
  · by_cases h8 : A.pn < 8 ∧ A.qn < 8
    case neg =>
      have HF := Lib.hid hf
      clear hf
      by_cases h8a : A.pn < 8
      · have k1 : decide ((A.pn : Int) ≥ 8) = false := by simp; omega
        have k2 : decide ((A.qn : Int) ≥ 8) = true := by simp; omega
        have k1' : decide ((8 : Int) ≤ A.pn) = false := by simp; omega
        have k2' : decide ((8 : Int) ≤ A.qn) = true := by simp; omega
        clear h8 h8a
        go_enter Tryd.func6, Tryd.ntmps6
        go_wp2_with fail
        rw [HWQ.out]
        refine (fitT HA.out HF.out).mono ?_
        rintro e w1 ⟨rfl, hb⟩
        have HB := Lib.hid hb
        obtain ⟨⟨c0, c1, c2, c3, c4, c5⟩, ⟨d0, d1, d2, d3, d4, d5⟩⟩ := HKEEP.out _ hb
        clear hb
        go_wp2_with fail
        refine (HAWK.out _ HB.out).mono ?_
        rintro e w2 ⟨rfl, hb⟩
        have HB2 := Lib.hid (HB.out.trans (hb.mono HB.out.size))
        clear hb c0 c1 c2 c3 c4 c5 d0 d1 d2 d3 d4 d5
        go_wp2
        go_ret
        exact ⟨rfl, HBW.out.trans (HB2.out.mono HBW.out.size)⟩
      · have k1 : decide ((A.pn : Int) ≥ 8) = true := by simp; omega
        have k1' : decide ((8 : Int) ≤ A.pn) = true := by simp; omega
        clear h8 h8a
        go_enter Tryd.func6, Tryd.ntmps6
        go_wp2_with fail
        rw [HWQ.out]
        refine (fitT HA.out HF.out).mono ?_
        rintro e w1 ⟨rfl, hb⟩
        have HB := Lib.hid hb
        obtain ⟨⟨c0, c1, c2, c3, c4, c5⟩, ⟨d0, d1, d2, d3, d4, d5⟩⟩ := HKEEP.out _ hb
        clear hb
        go_wp2_with fail
        refine (HAWK.out _ HB.out).mono ?_
        rintro e w2 ⟨rfl, hb⟩
        have HB2 := Lib.hid (HB.out.trans (hb.mono HB.out.size))
        clear hb c0 c1 c2 c3 c4 c5 d0 d1 d2 d3 d4 d5
        go_wp2
        go_ret
        exact ⟨rfl, HBW.out.trans (HB2.out.mono HBW.out.size)⟩
    case pos =>
    have HF := Lib.hid hf
    have hf2 : srcFit A.dat.size zs ps = true ∧ sinkFit tzs A.room A.rd A.bk qs = true := by unfold fitB at hf; simpa using hf
    have hfa : FitA A.dat.size zs ps := ⟨hf2.1, HNN.out.1, HNN.out.2⟩
    obtain ⟨h8a, h8b⟩ := h8
    have k1 : decide ((A.pn : Int) ≥ 8) = false := by simp; omega
    have k2 : decide ((A.qn : Int) ≥ 8) = false := by simp; omega
    have k1' : decide ((8 : Int) ≤ A.pn) = false := by simp; omega
    have k2' : decide ((8 : Int) ≤ A.qn) = false := by simp; omega
    have hsz := sizeM_le n
    obtain ⟨m, hm⟩ : ∃ m, sizeM n = m := ⟨_, rfl⟩
    rw [hm] at hsz
    have hsT : ∀ wx : World, Calls Tryd.prog 15 #[.int .i64 n] wx (fun e w' => e = .returned (.int .i64 (m : Nat)) ∧ w' = wx) := fun wx => by rw [← hm]; exact sizeT n wx
    have HFA := Lib.hid (And.intro hfa hf2.2)
    have HST := Lib.hid hsT
    clear hf hf2 hfa hm hsT
    go_enter Tryd.func6, Tryd.ntmps6
    go_wp2_with fail
    rw [HWQ.out]
    refine (fitT HA.out HF.out).mono ?_
    rintro e w1 ⟨rfl, hb⟩
    have HB1 := Lib.hid hb
    obtain ⟨⟨c0, c1, c2, c3, c4, c5⟩, ⟨d0, d1, d2, d3, d4, d5⟩⟩ := HKEEP.out _ hb
    have HA1 := Lib.hid (HA.out.below hb)
    clear hb
    go_upto_region 5 with (at_builtin; go_must (refine wpList_append_row rfl _ _ 23 23 rfl 43 i0 zeroPipe 7 64 Tryd.underlying23 HY.out.1 HY.out.2.1 HY.out.2.2.1 HY.out.2.2.2 rfl rfl (Row.nil w1.heap.size _ _) A.pn (rowC ps) (Src.ofRd Tryd.underlying23 HA1.out.p.1.1 (rowC_one ps)) (by unfold maxLen; omega) (by omega) (Nat.le_refl _) ?_; intro a' c' W2 hrow hgr hbk9; rw [Nat.zero_add, List.nil_append] at hrow; have HWW2 := Lib.hid hrow; have HGW2 := Lib.hid hgr; clear hrow hgr hbk9))
    have hb9 := below_of_grown HGW2.out
    have HBW2 := Lib.hid hb9
    have c0 := cellAt hb9 c0
    have c1 := cellAt hb9 c1
    have c2 := cellAt hb9 c2
    have c3 := cellAt hb9 c3
    have c4 := cellAt hb9 c4
    have c5 := cellAt hb9 c5
    clear hb9
    go_upto_region 7 with (at_builtin; go_must (refine wpList_append_row (B := w1.heap.size) rfl _ _ 23 23 rfl 43 i0 zeroPipe 7 64 Tryd.underlying23 HY.out.1 HY.out.2.1 HY.out.2.2.1 HY.out.2.2.2 rfl rfl ((HWW2.out.alloc _).alloc _) 1 (newPp 2 0).cells (Src.ofRd Tryd.underlying23 (Rd.onePipeAt (W2.alloc (.cells #[.string A.dat, .slice A.sa A.sn A.sc, .bool A.early, .bool A.broken, .bool A.wr, .slice A.pa A.pn A.pc] 25)) 2 0 (by simp)) (cells_one _)) (by unfold maxLen; omega) (by omega) (by have := HBW2.out.size; simp; omega) ?_; intro a2 e2c W3 hrow hgr hbk9; have HWW3 := Lib.hid hrow; have HGW3 := Lib.hid hgr; have HKW3 := Lib.hid hbk9; clear hrow hgr hbk9; have hx3 := grownA HWW2.out HGW3.out; have s5 := hx3.cell 5 rfl; have sf5 := hx3.free 5 (by simp); clear hx3))
    obtain ⟨W4, he9⟩ : ∃ W4, W3.setCell ⟨W2.heap.size, 5, none⟩ (.slice a2 (A.pn + 1) e2c) = W4 := ⟨_, rfl⟩
    obtain ⟨hbe, hblk, hpe⟩ := grownB (j := 5) (op := 2) HA1.out.p HGW2.out HWW2.out HGW3.out HWW3.out HKW3.out he9
    rw [he9]
    have HBEW4 := Lib.hid hbe
    have HBLW4 := Lib.hid hblk
    have HPEW4 := Lib.hid hpe
    clear c0 c1 c2 c3 c4 c5 d0 d1 d2 d3 d4 d5 s5 sf5
    have HB4 := Lib.hid (HB1.out.trans (hbe.mono HB1.out.size))
    have HA4 := Lib.hid (HA1.out.below hbe)
    obtain ⟨sb, hsb⟩ : ∃ sb, W2.heap.size = sb := ⟨_, rfl⟩
    rw [hsb] at HBLW4 ⊢
    clear hsb
    obtain ⟨⟨_, _, _, _, _, _⟩, ⟨d0, d1, d2, d3, d4, d5⟩⟩ := HKEEP.out _ HB4.out
    clear hbe hblk hpe he9 HWW2 HGW2 HWW3 HGW3 HKW3 HBW2
    go_upto_region 9 with (at_builtin; go_must (refine wpList_append_row rfl _ _ 23 23 rfl 43 i0 zeroPipe 7 64 Tryd.underlying23 HY.out.1 HY.out.2.1 HY.out.2.2.1 HY.out.2.2.2 rfl rfl (Row.nil W4.heap.size _ _) A.qn (rowC qs) (Src.ofRd Tryd.underlying23 HA4.out.q.1.1 (rowC_one qs)) (by unfold maxLen; omega) (by omega) (Nat.le_refl _) ?_; intro q' g' W5 hrow hgr hbk9; rw [Nat.zero_add, List.nil_append] at hrow; have HWW5 := Lib.hid hrow; have HGW5 := Lib.hid hgr; clear hrow hgr hbk9))
    have hb9 := below_of_grown HGW5.out
    have HBW5 := Lib.hid hb9
    have d0 := cellAt hb9 d0
    have d1 := cellAt hb9 d1
    have d2 := cellAt hb9 d2
    have d3 := cellAt hb9 d3
    have d4 := cellAt hb9 d4
    have d5 := cellAt hb9 d5
    clear hb9
    go_upto_region 11 with (at_builtin; go_must (refine wpList_append_row (B := W4.heap.size) rfl _ _ 23 23 rfl 43 i0 zeroPipe 7 64 Tryd.underlying23 HY.out.1 HY.out.2.1 HY.out.2.2.1 HY.out.2.2.2 rfl rfl ((HWW5.out.alloc _).alloc _) 1 (newPp 2 0).cells (Src.ofRd Tryd.underlying23 (Rd.onePipeAt (W5.alloc (.cells #[.slice A.ta A.tn A.tc, .int .i64 A.room, .bool A.over, .bool A.rd, .int .i64 A.bk, .slice A.qa A.qn A.qc] 29)) 2 0 (by simp)) (cells_one _)) (by unfold maxLen; omega) (by omega) (by have := HBW5.out.size; simp; omega) ?_; intro q2 g2 W6 hrow hgr hbk9; have HWW6 := Lib.hid hrow; have HGW6 := Lib.hid hgr; have HKW6 := Lib.hid hbk9; clear hrow hgr hbk9; have hx3 := grownA HWW5.out HGW6.out; have s5 := hx3.cell 5 rfl; have sf5 := hx3.free 5 (by simp); clear hx3))
    obtain ⟨W7, he9⟩ : ∃ W7, W6.setCell ⟨W5.heap.size, 5, none⟩ (.slice q2 (A.qn + 1) g2) = W7 := ⟨_, rfl⟩
    obtain ⟨hbe, hblk, hpe⟩ := grownB (j := 5) (op := 2) HA4.out.q HGW5.out HWW5.out HGW6.out HWW6.out HKW6.out he9
    rw [he9]
    have HBEW7 := Lib.hid hbe
    have HBLW7 := Lib.hid hblk
    have HPEW7 := Lib.hid hpe
    clear d0 d1 d2 d3 d4 d5 s5 sf5
    have HB7 := Lib.hid (HB4.out.trans (hbe.mono HB4.out.size))
    have HA7 := Lib.hid (HA4.out.below hbe)
    have HL7 := Lib.hid (HLQ.out.below HB7.out)
    have HS7 := Lib.hid (HBLW4.out.below hbe)
    have g7 : Step (fun _ => False) W4 free W7 free := (Step.refl _ (fun _ _ => rfl)).calm hbe
    have HP7 := Lib.hid (HPEW4.out.step g7)
    obtain ⟨db, hdb⟩ : ∃ db, W5.heap.size = db := ⟨_, rfl⟩
    rw [hdb] at HBLW7 ⊢
    clear hdb g7
    clear hbe hblk hpe he9 HWW5 HGW5 HWW6 HGW6 HKW6 HBW5
    obtain ⟨R, hR⟩ : ∃ R, resOf A zs tzs ps qs m = R := ⟨_, rfl⟩
    obtain ⟨R', hR'⟩ : ∃ R', resOf { A with pa := a2, pn := A.pn + 1, pc := e2c, qa := q2, qn := A.qn + 1, qc := g2 } zs tzs (ps ++ [newPp 2 0]) (qs ++ [newPp 2 0]) m = R' := ⟨_, rfl⟩
    have hmore := tells_more (A := A) (zs := zs) (tzs := tzs) (ps := ps) (qs := qs) (m := m) (a := a2) (an := A.pn + 1) (ac := e2c) (b := q2) (bn := A.qn + 1) (bc := g2)
    rw [hR, hR'] at hmore
    obtain ⟨t1, t2, t3, t4, t5⟩ := more_told hmore.1
    have t6 := hmore.2
    obtain ⟨tot, htot⟩ : ∃ tot, R.1.tot = tot := ⟨_, rfl⟩
    obtain ⟨e, hee⟩ : ∃ e, R.2.1 = e := ⟨_, rfl⟩
    obtain ⟨way, hway⟩ : ∃ way, R.2.2.toNat = way := ⟨_, rfl⟩
    obtain ⟨d, hd⟩ : ∃ d, bytesS R.1.t = d := ⟨_, rfl⟩
    obtain ⟨ss, hss⟩ : ∃ ss, (sideTs R.1.l).map bytesS = ss := ⟨_, rfl⟩
    obtain ⟨cs, hcs⟩ : ∃ cs, cntsOf R.1.l ++ cntsK R.1.k = cs := ⟨_, rfl⟩
    obtain ⟨csx, hcsx⟩ : ∃ cs, cntsOf R'.1.l ++ cntsK R'.1.k = cs := ⟨_, rfl⟩
    obtain ⟨k, hk⟩ : ∃ k, R.1.s.k = k := ⟨_, rfl⟩
    obtain ⟨wk, hwk⟩ : ∃ wk, R.1.t.k = wk := ⟨_, rfl⟩
    obtain ⟨lf, hlf⟩ : ∃ lf, R.1.s.left = lf := ⟨_, rfl⟩
    have hl8 : ps.length < 8 ∧ qs.length < 8 := by rw [HPL.out.1, HPL.out.2]; exact ⟨h8a, h8b⟩
    have h14a : ∀ wx : World, Below W7.heap.size W7 wx → Calls Tryd.prog 14 #[.agg #[.string A.dat, .slice A.sa A.sn A.sc, .bool A.early, .bool A.broken, .bool A.wr, .slice A.pa A.pn A.pc], .agg #[.slice A.ta A.tn A.tc, .int .i64 A.room, .bool A.over, .bool A.rd, .int .i64 A.bk, .slice A.qa A.qn A.qc], .int .i64 m] wx (TP tot e way d ss cs k wk lf wx) := fun wx hx => by
      have := copyNT (HA7.out.below hx) (HL7.out.below hx) HFA.out.1 HFA.out.2 hsz.1 hsz.2 hR
      rw [htot, hee, hway, hd, hss, hcs, hk, hwk, hlf] at this
      exact this
    have h14b : ∀ wx : World, Below W7.heap.size W7 wx → Calls Tryd.prog 14 #[.agg #[.string A.dat, .slice A.sa A.sn A.sc, .bool A.early, .bool A.broken, .bool A.wr, .slice a2 (A.pn + 1) e2c], .agg #[.slice A.ta A.tn A.tc, .int .i64 A.room, .bool A.over, .bool A.rd, .int .i64 A.bk, .slice q2 (A.qn + 1) g2], .int .i64 m] wx (TP tot e way d ss csx k wk lf wx) := fun wx hx => by
      have g : Step (fun _ => False) W7 free wx free := (Step.refl _ (fun _ _ => rfl)).calm hx
      have hax := HA7.out.below hx
      have := copyNT (A := { A with pa := a2, pn := A.pn + 1, pc := e2c, qa := q2, qn := A.qn + 1, qc := g2 }) ⟨hax.z, HP7.out.step g, hax.t, HPEW7.out.step g⟩ (HL7.out.below hx) (fitA_more HFA.out.1 hl8.1 (.inr rfl)) (sinkFit_more HFA.out.2 hl8.2 (.inr rfl)) hsz.1 hsz.2 hR'
      rw [t1, t2, t3, t4, t6, htot, hee, hway, hd, hss, hcsx, hk, hwk, hlf] at this
      exact this
    rw [hcs, hcsx] at t5
    have hk7 : ∀ wx : World, Below W7.heap.size W7 wx → ((wx.cell? ⟨w.heap.size, 0, none⟩ = some (.string A.dat) ∧ wx.cell? ⟨w.heap.size, 1, none⟩ = some (.slice A.sa A.sn A.sc) ∧ wx.cell? ⟨w.heap.size, 2, none⟩ = some (.bool A.early) ∧ wx.cell? ⟨w.heap.size, 3, none⟩ = some (.bool A.broken) ∧ wx.cell? ⟨w.heap.size, 4, none⟩ = some (.bool A.wr) ∧ wx.cell? ⟨w.heap.size, 5, none⟩ = some (.slice A.pa A.pn A.pc)) ∧ (wx.cell? ⟨w.heap.size + 1, 0, none⟩ = some (.slice A.ta A.tn A.tc) ∧ wx.cell? ⟨w.heap.size + 1, 1, none⟩ = some (.int .i64 A.room) ∧ wx.cell? ⟨w.heap.size + 1, 2, none⟩ = some (.bool A.over) ∧ wx.cell? ⟨w.heap.size + 1, 3, none⟩ = some (.bool A.rd) ∧ wx.cell? ⟨w.heap.size + 1, 4, none⟩ = some (.int .i64 A.bk) ∧ wx.cell? ⟨w.heap.size + 1, 5, none⟩ = some (.slice A.qa A.qn A.qc))) ∧ ((wx.cell? ⟨sb, 0, none⟩ = some (.string A.dat) ∧ wx.cell? ⟨sb, 1, none⟩ = some (.slice A.sa A.sn A.sc) ∧ wx.cell? ⟨sb, 2, none⟩ = some (.bool A.early) ∧ wx.cell? ⟨sb, 3, none⟩ = some (.bool A.broken) ∧ wx.cell? ⟨sb, 4, none⟩ = some (.bool A.wr) ∧ wx.cell? ⟨sb, 5, none⟩ = some (.slice a2 (A.pn + 1) e2c)) ∧ (wx.cell? ⟨db, 0, none⟩ = some (.slice A.ta A.tn A.tc) ∧ wx.cell? ⟨db, 1, none⟩ = some (.int .i64 A.room) ∧ wx.cell? ⟨db, 2, none⟩ = some (.bool A.over) ∧ wx.cell? ⟨db, 3, none⟩ = some (.bool A.rd) ∧ wx.cell? ⟨db, 4, none⟩ = some (.int .i64 A.bk) ∧ wx.cell? ⟨db, 5, none⟩ = some (.slice q2 (A.qn + 1) g2))) := fun wx hx => ⟨HKEEP.out wx (HB7.out.trans (hx.mono HB7.out.size)), wayKeep (HS7.out.below hx) (HBLW7.out.below hx)⟩
    have HK7 := Lib.hid hk7
    have HC14D := Lib.hid (h14a W7.drew (Below.refl _ _).drew)
    have HC14Z := Lib.hid (h14a ((W7.alloc (.cells #[.int .i64 0, .int .i64 0, .int .i64 0, .string ⟨#[]⟩, .slice none 0 0, .slice none 0 0, .int .i64 0, .int .i64 0, .int .i64 0] 37)).drew) ((Below.refl _ W7).alloc (Nat.le_refl _) _).drew)
    have H14B := Lib.hid h14b
    have HT5 := Lib.hid t5
    have HKS := Lib.hid (show ∀ wx : World, Below W7.heap.size W7 wx → ((wx.cell? ⟨w.heap.size, 0, none⟩ = some (.string A.dat) ∧ wx.cell? ⟨w.heap.size, 1, none⟩ = some (.slice A.sa A.sn A.sc) ∧ wx.cell? ⟨w.heap.size, 2, none⟩ = some (.bool A.early) ∧ wx.cell? ⟨w.heap.size, 3, none⟩ = some (.bool A.broken) ∧ wx.cell? ⟨w.heap.size, 4, none⟩ = some (.bool A.wr) ∧ wx.cell? ⟨w.heap.size, 5, none⟩ = some (.slice A.pa A.pn A.pc)) ∧ (wx.cell? ⟨w.heap.size + 1, 0, none⟩ = some (.slice A.ta A.tn A.tc) ∧ wx.cell? ⟨w.heap.size + 1, 1, none⟩ = some (.int .i64 A.room) ∧ wx.cell? ⟨w.heap.size + 1, 2, none⟩ = some (.bool A.over) ∧ wx.cell? ⟨w.heap.size + 1, 3, none⟩ = some (.bool A.rd) ∧ wx.cell? ⟨w.heap.size + 1, 4, none⟩ = some (.int .i64 A.bk) ∧ wx.cell? ⟨w.heap.size + 1, 5, none⟩ = some (.slice A.qa A.qn A.qc))) from fun wx hx => (hk7 wx hx).1)
    clear hR hR' hmore t1 t2 t3 t4 t5 t6 htot hee hway hd hss hcs hcsx hk hwk hlf hl8 h14a h14b hk7 HPEW4 HBLW4 HBEW4 HBEW7 HA1 HA4 HB4 HS7 HP7 HPEW7 HBLW7 HL7 HA7
    clear R R'
    go_cut [11] from 12 (fun s9 wx => RecX tot e way d ss cs k wk lf W7 s9 wx)
    case first =>
      go_region_held3 (fun wx : World => (wx.cell? ⟨w.heap.size, 0, none⟩ = some (.string A.dat) ∧ wx.cell? ⟨w.heap.size, 1, none⟩ = some (.slice A.sa A.sn A.sc) ∧ wx.cell? ⟨w.heap.size, 2, none⟩ = some (.bool A.early) ∧ wx.cell? ⟨w.heap.size, 3, none⟩ = some (.bool A.broken) ∧ wx.cell? ⟨w.heap.size, 4, none⟩ = some (.bool A.wr) ∧ wx.cell? ⟨w.heap.size, 5, none⟩ = some (.slice A.pa A.pn A.pc)) ∧ (wx.cell? ⟨w.heap.size + 1, 0, none⟩ = some (.slice A.ta A.tn A.tc) ∧ wx.cell? ⟨w.heap.size + 1, 1, none⟩ = some (.int .i64 A.room) ∧ wx.cell? ⟨w.heap.size + 1, 2, none⟩ = some (.bool A.over) ∧ wx.cell? ⟨w.heap.size + 1, 3, none⟩ = some (.bool A.rd) ∧ wx.cell? ⟨w.heap.size + 1, 4, none⟩ = some (.int .i64 A.bk) ∧ wx.cell? ⟨w.heap.size + 1, 5, none⟩ = some (.slice A.qa A.qn A.qc)))
        (first | (refine HKS.out _ ?_; repeat (first | refine Below.setCell ?_ (by first | (simp; done) | (simp; omega) | (have := HBA.out.size; simp; omega)) _ | refine Below.alloc ?_ (by first | (simp; done) | (simp; omega) | (have := HBA.out.size; simp; omega)) _ | refine Below.drew ?_ | exact HBA.out | exact Below.refl _ _)))
        (first
          | (go_simp; go_at_call 15; refine (HST.out _).mono ?_; rintro e15 w15 ⟨rfl, rfl⟩)
          | (go_simp; go_at_call 14; refine (HC14D.out).mono ?_; rintro eA wA ⟨a1, n1, c1, b1, n2, c3, rfl, hbx, hr1, hr2, hf1, hf2⟩; have HBA := Lib.hid ((Below.refl W7.heap.size W7).drew.trans hbx); have HR := Lib.hid (And.intro hr1 hr2); clear hbx hr1 hr2 hf1 hf2)
          | (go_simp; go_at_call 14; refine (HC14Z.out).mono ?_; rintro eA wA ⟨a1, n1, c1, b1, n2, c3, rfl, hbx, hr1, hr2, hf1, hf2⟩; have hbA := ((Below.refl W7.heap.size W7).alloc (Nat.le_refl _) (.cells #[.int .i64 0, .int .i64 0, .int .i64 0, .string ⟨#[]⟩, .slice none 0 0, .slice none 0 0, .int .i64 0, .int .i64 0, .int .i64 0] 37)).drew; have HBA := Lib.hid (hbA.trans (hbx.mono hbA.size)); obtain ⟨hz, y0, y1, y2, y3, y4, y5, y6, y7, y8, fz0, fz1, fz2, fz3, fz4, fz5, fz6, fz7, fz8⟩ := zeroRec hbx; have HZ := Lib.hid hz; have HR := Lib.hid (And.intro hr1 hr2); have HFR := Lib.hid (show (∀ x, blockOf a1 = some x → W7.heap.size + 1 ≤ x) ∧ (∀ x, blockOf b1 = some x → W7.heap.size + 1 ≤ x) from ⟨fun x hx => by have h9 := hf1 x hx; simp at h9; omega, fun x hx => by have h9 := hf2 x hx; simp at h9; omega⟩); clear hz hbx hbA hr1 hr2 hf1 hf2))
      all_goals
        go_wp2_with fail
        go_meet
        case rel =>
          (first
            | with_reducible exact RecX.a HBA.out HR.out.1 HR.out.2
            | exact RecX.b HBA.out HZ.out HR.out.1 HR.out.2 HFR.out.1 HFR.out.2)
    case rest =>
    obtain ⟨cb, x1, xn, xc, y1, yn, yc, rfl, hbw, hcb, hB, hr1, hr2, hr3⟩ := hcut
    rename World => wz
    have hb7z := HB7.out.trans (hbw.mono HB7.out.size)
    have HBZ := Lib.hid hb7z
    have HCB := Lib.hid hB
    have HCR := Lib.hid (And.intro hr1 hr2)
    have HCL := Lib.hid hB.lt
    have HC14D2 := Lib.hid (H14B.out wz.drew (hbw.trans ((Below.refl _ _).drew.mono hbw.size)))
    have HC14Z2 := Lib.hid (H14B.out ((wz.alloc (.cells #[.int .i64 0, .int .i64 0, .int .i64 0, .string ⟨#[]⟩, .slice none 0 0, .slice none 0 0, .int .i64 0, .int .i64 0, .int .i64 0] 37)).drew) (hbw.trans (((Below.refl _ wz).alloc (Nat.le_refl _) (.cells #[.int .i64 0, .int .i64 0, .int .i64 0, .string ⟨#[]⟩, .slice none 0 0, .slice none 0 0, .int .i64 0, .int .i64 0, .int .i64 0] 37)).drew.mono hbw.size)))
    have HKS2 := Lib.hid (show ∀ wx : World, Below wz.heap.size wz wx → ((wx.cell? ⟨sb, 0, none⟩ = some (.string A.dat) ∧ wx.cell? ⟨sb, 1, none⟩ = some (.slice A.sa A.sn A.sc) ∧ wx.cell? ⟨sb, 2, none⟩ = some (.bool A.early) ∧ wx.cell? ⟨sb, 3, none⟩ = some (.bool A.broken) ∧ wx.cell? ⟨sb, 4, none⟩ = some (.bool A.wr) ∧ wx.cell? ⟨sb, 5, none⟩ = some (.slice a2 (A.pn + 1) e2c)) ∧ (wx.cell? ⟨db, 0, none⟩ = some (.slice A.ta A.tn A.tc) ∧ wx.cell? ⟨db, 1, none⟩ = some (.int .i64 A.room) ∧ wx.cell? ⟨db, 2, none⟩ = some (.bool A.over) ∧ wx.cell? ⟨db, 3, none⟩ = some (.bool A.rd) ∧ wx.cell? ⟨db, 4, none⟩ = some (.int .i64 A.bk) ∧ wx.cell? ⟨db, 5, none⟩ = some (.slice q2 (A.qn + 1) g2))) from fun wx hx => (HK7.out wx (hbw.trans (hx.mono hbw.size))).2)
    clear hb7z hB hr1 hr2 hr3 hbw hcb HC14D HC14Z HKS H14B HK7
    go_wp2_with fail
    go_cut [12] from 13 (fun s9 wx => RecX tot e way d ss csx k wk lf wz s9 wx)
    case first =>
      go_region_held3 (fun wx : World => (wx.cell? ⟨sb, 0, none⟩ = some (.string A.dat) ∧ wx.cell? ⟨sb, 1, none⟩ = some (.slice A.sa A.sn A.sc) ∧ wx.cell? ⟨sb, 2, none⟩ = some (.bool A.early) ∧ wx.cell? ⟨sb, 3, none⟩ = some (.bool A.broken) ∧ wx.cell? ⟨sb, 4, none⟩ = some (.bool A.wr) ∧ wx.cell? ⟨sb, 5, none⟩ = some (.slice a2 (A.pn + 1) e2c)) ∧ (wx.cell? ⟨db, 0, none⟩ = some (.slice A.ta A.tn A.tc) ∧ wx.cell? ⟨db, 1, none⟩ = some (.int .i64 A.room) ∧ wx.cell? ⟨db, 2, none⟩ = some (.bool A.over) ∧ wx.cell? ⟨db, 3, none⟩ = some (.bool A.rd) ∧ wx.cell? ⟨db, 4, none⟩ = some (.int .i64 A.bk) ∧ wx.cell? ⟨db, 5, none⟩ = some (.slice q2 (A.qn + 1) g2)))
        (first | (refine HKS2.out _ ?_; repeat (first | refine Below.setCell ?_ (by first | (simp; done) | (simp; omega) | (have := HBA.out.size; simp; omega)) _ | refine Below.alloc ?_ (by first | (simp; done) | (simp; omega) | (have := HBA.out.size; simp; omega)) _ | refine Below.drew ?_ | exact HBA.out | exact Below.refl _ _)))
        (first
          | (go_simp; go_at_call 15; refine (HST.out _).mono ?_; rintro e15 w15 ⟨rfl, rfl⟩)
          | (go_simp; go_at_call 14; refine (HC14D2.out).mono ?_; rintro eA wA ⟨a1, n1, c1, b1, n2, c3, rfl, hbx, hr1, hr2, hf1, hf2⟩; have HBA := Lib.hid ((Below.refl wz.heap.size wz).drew.trans hbx); have HR := Lib.hid (And.intro hr1 hr2); clear hbx hr1 hr2 hf1 hf2)
          | (go_simp; go_at_call 14; refine (HC14Z2.out).mono ?_; rintro eA wA ⟨a1, n1, c1, b1, n2, c3, rfl, hbx, hr1, hr2, hf1, hf2⟩; have hbA := ((Below.refl wz.heap.size wz).alloc (Nat.le_refl _) (.cells #[.int .i64 0, .int .i64 0, .int .i64 0, .string ⟨#[]⟩, .slice none 0 0, .slice none 0 0, .int .i64 0, .int .i64 0, .int .i64 0] 37)).drew; have HBA := Lib.hid (hbA.trans (hbx.mono hbA.size)); obtain ⟨hz, y0, y1, y2, y3, y4, y5, y6, y7, y8, fz0, fz1, fz2, fz3, fz4, fz5, fz6, fz7, fz8⟩ := zeroRec hbx; have HZ := Lib.hid hz; have HR := Lib.hid (And.intro hr1 hr2); have HFR := Lib.hid (show (∀ x, blockOf a1 = some x → wz.heap.size + 1 ≤ x) ∧ (∀ x, blockOf b1 = some x → wz.heap.size + 1 ≤ x) from ⟨fun x hx => by have h9 := hf1 x hx; simp at h9; omega, fun x hx => by have h9 := hf2 x hx; simp at h9; omega⟩); clear hz hbx hbA hr1 hr2 hf1 hf2))
      all_goals
        go_wp2_with fail
        go_meet
        case rel =>
          (first
            | with_reducible exact RecX.a HBA.out HR.out.1 HR.out.2
            | exact RecX.b HBA.out HZ.out HR.out.1 HR.out.2 HFR.out.1 HFR.out.2)
    case rest =>
    obtain ⟨xb, u1, un, uc, v1, vn, vc, rfl, hbw, hxb, hX, hs1, hs2, hs3⟩ := hcut
    have hcx := HCB.out.below hbw
    have hne : cb ≠ xb := by have := HCL.out; omega
    obtain rfl : vn = yn + 2 := by
      have q1 := HCR.out.2.len
      have q2 := hs2.len
      have q3 := HT5.out
      simp only [I3, List.length_map] at q1 q2
      omega
    have hmx : yn + 2 ≤ maxLen := Nat.le_trans hs2.le hs2.max
    unfold maxLen at hmx
    rename World => wz2
    have HBW2 := Lib.hid hbw
    have HXX := Lib.hid hX
    have HCX := Lib.hid hcx
    have HS3 := Lib.hid (hs3 5 (.slice y1 yn yc))
    have HXB := Lib.hid hxb
    have HNE := Lib.hid hne
    have g5 := hcx.cell 5 rfl
    have p5 := hX.cell 5 rfl
    have pf5 := hX.free 5 (by simp)
    clear hbw hX hcx hxb hs1 hs2 hs3 hne HC14D2 HC14Z2 HKS2
    go_upto_region 16 with (fail)
    clear g5 p5 pf5
    obtain ⟨wz3, hz3⟩ : ∃ wz3, wz2.setCell ⟨xb, 5, none⟩ (.slice y1 yn yc) = wz3 := ⟨_, rfl⟩
    have hb3 : Below wz.heap.size wz wz3 := by rw [← hz3]; exact HBW2.out.setCell (p := ⟨xb, 5, none⟩) HXB.out _
    have hx3 : Blk wz3 xb [.int .i64 (tot : Nat), .int .i64 e, .int .i64 (way : Nat), .string d, .slice u1 un uc, .slice y1 yn yc, .int .i64 (k : Nat), .int .i64 (wk : Nat), .int .i64 (lf : Nat)] := by rw [← hz3]; exact HXX.out.set (j := 5) _
    have hc3 : Blk wz3 cb [.int .i64 (tot : Nat), .int .i64 e, .int .i64 (way : Nat), .string d, .slice x1 xn xc, .slice y1 yn yc, .int .i64 (k : Nat), .int .i64 (wk : Nat), .int .i64 (lf : Nat)] := by rw [← hz3]; exact HCX.out.other (p := ⟨xb, 5, none⟩) _ (fun e9 => HNE.out e9.symm)
    have hu3 : Rd wz3 1 u1 un uc (ss.map Value.string) := by rw [← hz3]; exact HS3.out
    rw [hz3]
    have hvA : CopiedV tot e way d ss cs k wk lf (.agg #[.int .i64 (tot : Nat), .int .i64 e, .int .i64 (way : Nat), .string d, .slice x1 xn xc, .slice y1 yn yc, .int .i64 (k : Nat), .int .i64 (wk : Nat), .int .i64 (lf : Nat)]) wz3 := ⟨x1, xn, xc, y1, yn, yc, rfl, HCR.out.1.below hb3, HCR.out.2.below hb3⟩
    have hvB : CopiedV tot e way d ss cs k wk lf (.agg #[.int .i64 (tot : Nat), .int .i64 e, .int .i64 (way : Nat), .string d, .slice u1 un uc, .slice y1 yn yc, .int .i64 (k : Nat), .int .i64 (wk : Nat), .int .i64 (lf : Nat)]) wz3 := ⟨u1, un, uc, y1, yn, yc, rfl, hu3, HCR.out.2.below hb3⟩
    have HVA := Lib.hid hvA
    have HVB := Lib.hid hvB
    have HZ3 := Lib.hid (HBZ.out.trans (hb3.mono HBZ.out.size))
    have e0 := hx3.cell 0 rfl
    have e1 := hx3.cell 1 rfl
    have e2 := hx3.cell 2 rfl
    have e3 := hx3.cell 3 rfl
    have e4 := hx3.cell 4 rfl
    have e5 := hx3.cell 5 rfl
    have e6 := hx3.cell 6 rfl
    have e7 := hx3.cell 7 rfl
    have e8 := hx3.cell 8 rfl
    have f0 := hc3.cell 0 rfl
    have f1 := hc3.cell 1 rfl
    have f2 := hc3.cell 2 rfl
    have f3 := hc3.cell 3 rfl
    have f4 := hc3.cell 4 rfl
    have f5 := hc3.cell 5 rfl
    have f6 := hc3.cell 6 rfl
    have f7 := hc3.cell 7 rfl
    have f8 := hc3.cell 8 rfl
    clear hz3 hb3 hx3 hc3 hu3 hvA hvB
    go_wp2_with fail
    refine (sameT HVA.out HVB.out).mono ?_
    rintro e9 w9 ⟨rfl, hb9⟩
    have HZ9 := Lib.hid (HZ3.out.trans (hb9.mono HZ3.out.size))
    clear hb9 e0 e1 e2 e3 e4 e5 e6 e7 e8 f0 f1 f2 f3 f4 f5 f6 f7 f8
    go_wp2_with fail
    refine (HAWK.out _ HZ9.out).mono ?_
    rintro e9 w10 ⟨rfl, hb9⟩
    have HZ10 := Lib.hid (HZ9.out.trans (hb9.mono HZ9.out.size))
    clear hb9
    go_wp2
    go_ret
    exact ⟨rfl, HBW.out.trans (HZ10.out.mono HBW.out.size)⟩
end Go.Proofs.YtigfgdefgnahpaaDoor
