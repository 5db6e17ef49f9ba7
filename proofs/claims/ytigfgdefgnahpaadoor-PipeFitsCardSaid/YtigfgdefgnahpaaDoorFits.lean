/-
  The walk of PipeFits. Not a statement of the seat.
-/
import Derived.Test.YtigfgdefgnahpaaDoorCopies
namespace Go.Proofs.YtigfgdefgnahpaaDoor
open Go.RowKit

set_option maxRecDepth 100000 in
set_option maxHeartbeats 8000000 in
theorem fitsT {A : Sa} {zs tzs : List Int} {ps qs : List Pp} {eb : Nat} {w : World} (hA : ArgsAt w A zs tzs ps qs) (hL : Laid eb w) (hn : ∀ x ∈ ps, -9223372036854775808 ≤ x.n ∧ x.n ≤ 9223372036854775807) (hl : ∀ x ∈ ps, x.zs.length = x.sn) :
    Calls Tryd.prog 10 #[.agg #[.string A.dat, .slice A.sa A.sn A.sc, .bool A.early, .bool A.broken, .bool A.wr, .slice A.pa A.pn A.pc], .agg #[.slice A.ta A.tn A.tc, .int .i64 A.room, .bool A.over, .bool A.rd, .int .i64 A.bk, .slice A.qa A.qn A.qc]] w (RV w (.bool true)) := by
  obtain ⟨wq, hwq⟩ : ∃ wq, (w.alloc (.cells #[.string A.dat, .slice A.sa A.sn A.sc, .bool A.early, .bool A.broken, .bool A.wr, .slice A.pa A.pn A.pc] 25)).alloc (.cells #[.slice A.ta A.tn A.tc, .int .i64 A.room, .bool A.over, .bool A.rd, .int .i64 A.bk, .slice A.qa A.qn A.qc] 29) = wq := ⟨_, rfl⟩
  have hbw : Below w.heap.size w wq := by rw [← hwq]; exact ((Below.refl _ w).alloc (Nat.le_refl _) _).alloc (by rw [sz_alloc]; omega) _
  have hb1 : Blk wq w.heap.size A.src := by rw [← hwq]; exact (Blk.new w #[.string A.dat, .slice A.sa A.sn A.sc, .bool A.early, .bool A.broken, .bool A.wr, .slice A.pa A.pn A.pc] 25).alloc _
  have hb2 : Blk wq (w.heap.size + 1) A.dst := by
    rw [← hwq]
    have := Blk.new (w.alloc (.cells #[.string A.dat, .slice A.sa A.sn A.sc, .bool A.early, .bool A.broken, .bool A.wr, .slice A.pa A.pn A.pc] 25)) #[.slice A.ta A.tn A.tc, .int .i64 A.room, .bool A.over, .bool A.rd, .int .i64 A.bk, .slice A.qa A.qn A.qc] 29
    rw [sz_alloc] at this
    exact this
  have hbox : Boxed w.heap.size (w.heap.size + 1) A wq := ⟨⟨hb1.cell 0 rfl, hb1.cell 1 rfl, hb1.cell 2 rfl, hb1.cell 3 rfl, hb1.cell 4 rfl, hb1.cell 5 rfl⟩, ⟨hb2.cell 0 rfl, hb2.cell 1 rfl, hb2.cell 2 rfl, hb2.cell 3 rfl, hb2.cell 4 rfl, hb2.cell 5 rfl⟩⟩
  have hAq := hA.below hbw
  have hLq := hL.below hbw
  obtain ⟨b1, hs⟩ : ∃ b1, srcFit A.dat.size zs ps = b1 := ⟨_, rfl⟩
  obtain ⟨b2, ht⟩ : ∃ b2, sinkFit tzs A.room A.rd A.bk qs = b2 := ⟨_, rfl⟩
  obtain ⟨v, hv⟩ : ∃ v, wayM A.wr ps A.rd qs = v := ⟨_, rfl⟩
  obtain ⟨bf, hbf⟩ : ∃ bf, (b1 && b2) = bf := ⟨_, rfl⟩
  have hfit : fitB A zs tzs ps qs = bf := by unfold fitB; rw [hs, ht]; exact hbf
  have hway : b1 = true → b2 = true → (∀ x ∈ ps, x.rd = false) ∧ A.pn ≤ 10 ∧ A.qn ≤ 10 ∧ A.dat.size ≤ 65535 := by
    intro e1 e2
    subst e1 e2
    have hfa : FitA A.dat.data.toList.length zs ps := ⟨by rw [Array.length_toList]; exact hs, hn, hl⟩
    obtain ⟨p, k1, k2, k3, k4, k5, k6⟩ := fit_ok (over := A.over) A.early A.broken hfa ht
    have h1 := hAq.p.len
    have h2 := hAq.q.len
    refine ⟨k3, by omega, by omega, ?_⟩
    have := k1.s.2.2.2
    have h3 : A.dat.data.toList.length = A.dat.size := Array.length_toList
    dsimp only [srcOf] at this
    omega
  have h26 : ∀ wx : World, Below wq.heap.size wq wx → Calls Tryd.prog 26 #[.agg #[.string A.dat, .slice A.sa A.sn A.sc, .bool A.early, .bool A.broken, .bool A.wr, .slice A.pa A.pn A.pc]] wx (RV wx (.bool b1)) := fun wx hx => srcN (fun _ _ => rfl) (hAq.below hx).z (hAq.below hx).p hs
  have h21 : ∀ wx : World, Below wq.heap.size wq wx → Calls Tryd.prog 21 #[.agg #[.string A.dat, .slice A.sa A.sn A.sc, .bool A.early, .bool A.broken, .bool A.wr, .slice A.pa A.pn A.pc]] wx (RV wx (.bool b1)) := fun wx hx => srcR (fun _ _ => rfl) (hAq.below hx).z (hAq.below hx).p hs
  have h27 : ∀ wx : World, Below wq.heap.size wq wx → Calls Tryd.prog 27 #[.agg #[.slice A.ta A.tn A.tc, .int .i64 A.room, .bool A.over, .bool A.rd, .int .i64 A.bk, .slice A.qa A.qn A.qc]] wx (RV wx (.bool b2)) := fun wx hx => snkN (fun _ _ => rfl) (hAq.below hx).t (hAq.below hx).q ht
  have h28 : ∀ wx : World, Below wq.heap.size wq wx → Calls Tryd.prog 28 #[.agg #[.slice A.ta A.tn A.tc, .int .i64 A.room, .bool A.over, .bool A.rd, .int .i64 A.bk, .slice A.qa A.qn A.qc]] wx (RV wx (.bool b2)) := fun wx hx => snkR (fun _ _ => rfl) (hAq.below hx).t (hAq.below hx).q ht
  have h11 : ∀ wx : World, Below wq.heap.size wq wx → Calls Tryd.prog 11 #[.agg #[.string A.dat, .slice A.sa A.sn A.sc, .bool A.early, .bool A.broken, .bool A.wr, .slice A.pa A.pn A.pc], .agg #[.slice A.ta A.tn A.tc, .int .i64 A.room, .bool A.over, .bool A.rd, .int .i64 A.bk, .slice A.qa A.qn A.qc]] wx (RV wx (.bool bf)) := fun wx hx => fitT (hAq.below hx) hfit
  have h12 : ∀ wx : World, Below wq.heap.size wq wx → Calls Tryd.prog 12 #[] wx (RV wx (.bool true)) := fun wx hx => awakeT (hLq.below hx)
  have h18 : b1 = true → b2 = true → ∀ wx : World, Below wq.heap.size wq wx → Calls Tryd.prog 18 #[.agg #[.string A.dat, .slice A.sa A.sn A.sc, .bool A.early, .bool A.broken, .bool A.wr, .slice A.pa A.pn A.pc], .agg #[.slice A.ta A.tn A.tc, .int .i64 A.room, .bool A.over, .bool A.rd, .int .i64 A.bk, .slice A.qa A.qn A.qc]] wx (RV wx (.int .i64 v)) := fun e1 e2 wx hx => by
    obtain ⟨k1, k2, k3, k4⟩ := hway e1 e2
    exact wayN (hAq.below hx).z (hAq.below hx).p (hAq.below hx).t (hAq.below hx).q k1 k2 k3 k4 hv
  have h29 : ∀ wx : World, Below wq.heap.size wq wx → Calls Tryd.prog 29 #[.agg #[.string A.dat, .slice A.sa A.sn A.sc, .bool A.early, .bool A.broken, .bool A.wr, .slice A.pa A.pn A.pc], .agg #[.slice A.ta A.tn A.tc, .int .i64 A.room, .bool A.over, .bool A.rd, .int .i64 A.bk, .slice A.qa A.qn A.qc]] wx (RV wx (.int .i64 v)) := fun wx hx => wayR (r := free) (fun _ _ => rfl) (hAq.below hx).p (hAq.below hx).q hv
  have hkeep : ∀ wx : World, Below wq.heap.size wq wx → Boxed w.heap.size (w.heap.size + 1) A wx := fun wx hx => hbox.below hx
  have HKEEP := Lib.hid hkeep
  have H26 := Lib.hid h26
  have H21 := Lib.hid h21
  have H27 := Lib.hid h27
  have H28 := Lib.hid h28
  have H11 := Lib.hid h11
  have H12 := Lib.hid h12
  have H18 := Lib.hid h18
  have H29 := Lib.hid h29
  have HBW := Lib.hid hbw
  have HWQ := Lib.hid hwq
  unfold Boxed at HKEEP
  clear hkeep h26 h21 h27 h28 h11 h12 h18 h29 hbw hbox hAq hLq hs ht hv hfit hway hA hL hn hl hb1 hb2 hwq
  have hcase : (b1 = true ∧ b2 = true ∧ bf = true) ∨ (b1 = true ∧ b2 = false ∧ bf = false) ∨ (b1 = false ∧ b2 = true ∧ bf = false) ∨ (b1 = false ∧ b2 = false ∧ bf = false) := by
    subst hbf
    cases b1 <;> cases b2 <;> simp
  clear hbf
  rcases hcase with ⟨rfl, rfl, rfl⟩ | ⟨rfl, rfl, rfl⟩ | ⟨rfl, rfl, rfl⟩ | ⟨rfl, rfl, rfl⟩
  all_goals
    go_enter Tryd.func10, Tryd.ntmps10
    go_wp2_with fail
    rw [HWQ.out]
    obtain ⟨⟨c0, c1, c2, c3, c4, c5⟩, ⟨d0, d1, d2, d3, d4, d5⟩⟩ := HKEEP.out wq (Below.refl _ _)
    have r0 := Grew.cell c0
    have r1 := Grew.cell c1
    have r2 := Grew.cell c2
    have r3 := Grew.cell c3
    have r4 := Grew.cell c4
    have r5 := Grew.cell c5
    have q0 := Grew.cell d0
    have q1 := Grew.cell d1
    have q2 := Grew.cell d2
    have q3 := Grew.cell d3
    have q4 := Grew.cell d4
    have q5 := Grew.cell d5
    clear c0 c1 c2 c3 c4 c5 d0 d1 d2 d3 d4 d5
    refine wp_region_grew (by kernel_rfl) (by kernel_rfl) ?_
    repeat (go_big_quiet_step (first
      | (go_at_call 26; exact grew_call (H26.out _ (Grew.below _)))
      | (go_at_call 21; exact grew_call (H21.out _ (Grew.below _)))
      | (go_at_call 27; exact grew_call (H27.out _ (Grew.below _)))
      | (go_at_call 28; exact grew_call (H28.out _ (Grew.below _)))))
    refine wpQuiet_nil ?_
    intro _ hw'
    obtain ⟨x5, hw''⟩ := hw'
    subst hw''
    clear r0 r1 r2 r3 r4 r5 q0 q1 q2 q3 q4 q5
    have HX5 := Lib.hid x5.below
    generalize x5.val = w5 at HX5 ⊢
    clear x5
    go_wp2_with fail
    obtain ⟨⟨c0, c1, c2, c3, c4, c5⟩, ⟨d0, d1, d2, d3, d4, d5⟩⟩ := HKEEP.out w5 HX5.out
    have r0 := Grew.cell c0
    have r1 := Grew.cell c1
    have r2 := Grew.cell c2
    have r3 := Grew.cell c3
    have r4 := Grew.cell c4
    have r5 := Grew.cell c5
    have q0 := Grew.cell d0
    have q1 := Grew.cell d1
    have q2 := Grew.cell d2
    have q3 := Grew.cell d3
    have q4 := Grew.cell d4
    have q5 := Grew.cell d5
    clear c0 c1 c2 c3 c4 c5 d0 d1 d2 d3 d4 d5
    refine wp_region_grew (by kernel_rfl) (by kernel_rfl) ?_
    repeat (go_big_quiet_step (first
      | (go_at_call 11; exact grew_call (H11.out _ (HX5.out.trans ((Grew.below _).mono HX5.out.size))))
      | (go_at_call 18; exact grew_call (H18.out (by first | rfl | trivial) (by first | rfl | trivial) _ (HX5.out.trans ((Grew.below _).mono HX5.out.size))))
      | (go_at_call 29; exact grew_call (H29.out _ (HX5.out.trans ((Grew.below _).mono HX5.out.size))))
      | (go_at_call 12; exact grew_call (H12.out _ (HX5.out.trans ((Grew.below _).mono HX5.out.size))))))
    refine wpQuiet_nil ?_
    intro _ hw'
    obtain ⟨x6, hw''⟩ := hw'
    subst hw''
    clear r0 r1 r2 r3 r4 r5 q0 q1 q2 q3 q4 q5
    have HX6 := Lib.hid (HX5.out.trans (x6.below.mono HX5.out.size))
    generalize x6.val = w6 at HX6 ⊢
    clear x6
    go_wp2
    go_ret
    exact ⟨rfl, HBW.out.trans (HX6.out.mono HBW.out.size)⟩
end Go.Proofs.YtigfgdefgnahpaaDoor
