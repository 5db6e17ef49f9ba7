/-
  The walk of the law DedupSees. Not a statement of the seat.
-/
import Derived.Test.YtoninfccmonaiaaAwake
namespace Go.Proofs.Ytoninfccmonaiaa
open Go.RowKit

theorem fit_to {zs : List Int} {size : Int} {a : Option Addr} {n cap : Nat} {b : Bool} {w : World} (hz : Ints w a n cap zs) (hb : fitB zs size = b) :
    Calls Try.prog 8 #[.agg #[.slice a n cap], .int .i64 size] w (RB w (.bool b)) := by
  subst hb
  exact fit zs size a n cap w hz

set_option maxHeartbeats 1000000 in
theorem sees_unfit (zs : List Int) (size id : Int) (a : Option Addr) (n cap : Nat) (w : World) (hz : Ints w a n cap zs) (hf : fitB zs size = false) :
    Calls Try.prog 3 #[.agg #[.slice a n cap], .int .i64 size, .int .i64 id] w (RB w (.bool true)) := by
  have HZ := Lib.hid hz; clear hz
  have HF := Lib.hid hf; clear hf
  go_enter Try.func3, Try.ntmps3
  go_wp2_with fail
  refine (fit_to (HZ.out.alloc _) HF.out).mono ?_
  rintro e w1 ⟨rfl, hb1⟩
  have HB1 := Lib.hid hb1; clear hb1
  go_wp2_with fail
  refine (awake _).mono ?_
  rintro e w2 ⟨rfl, hb2⟩
  have HB2 := Lib.hid hb2; clear hb2
  go_wp2
  go_ret
  have s1 := HB1.out.size
  simp only [World.size_alloc] at s1
  exact ⟨rfl, ((Below.refl _ _).alloc (Nat.le_refl _) _).trans ((HB1.out.mono (by simp)).trans (HB2.out.mono (by omega)))⟩

theorem same_to {xs ys : List Int} {a b : Option Addr} {n m ca cb : Nat} {v : Bool} {w : World} (hx : Ints w a n ca xs) (hy : Ints w b m cb ys) (hv : eqB xs ys = v) :
    Calls Try.prog 12 #[.agg #[.slice a n ca], .agg #[.slice b m cb]] w (RB w (.bool v)) := by
  subst hv
  exact same xs ys a b n m ca cb w hx hy
theorem refKnows_to {zs : List Int} {id : Int} {a : Option Addr} {n cap : Nat} {b : Bool} {w : World} (hz : Ints w a n cap zs) (hb : memB zs id = b) :
    Calls Try.prog 14 #[.agg #[.slice a n cap], .int .i64 id] w (RB w (.bool b)) := by
  subst hb
  exact refKnows zs id a n cap w hz

set_option maxHeartbeats 2000000 in
theorem sees_fit (zs : List Int) (size id : Int) (a : Option Addr) (n cap : Nat) (w : World) (hz : Ints w a n cap zs) (hf : fitB zs size = true) (b : Bool) (hb : memB zs id = b) (L : List Int) (m : Nat) (hL : seenL zs size id = L) (hm : L.length = m) :
    Calls Try.prog 3 #[.agg #[.slice a n cap], .int .i64 size, .int .i64 id] w (RB w (.bool true)) := by
  obtain ⟨i0, hi, hy0, hy1, hy2⟩ := info_parts Try.info2
  have hlen := hz.len
  have hfp := fitB_true.1 hf
  have hn : n ≤ 4096 := by have := hfp.2.2.1; have := hfp.2.1; omega
  have hpos := hfp.1
  have HFP := Lib.hid hfp; clear hfp
  have HL := Lib.hid hlen; clear hlen
  have HZ := Lib.hid hz; clear hz
  have HF := Lib.hid hf; clear hf
  have HM := Lib.hid hb; clear hb
  have HLL := Lib.hid hL; clear hL
  have HLM := Lib.hid hm; clear hm
  have hm1 : m ≤ 4096 := by have := (seenL_fit (id := id) HFP.out).2.2.1; rw [HLL.out, HLM.out] at this; have := HFP.out.2.1; omega
  have hrL : refL zs size id = L := (refL_eq hpos HFP.out.2.2.1).trans HLL.out
  have HRL := Lib.hid hrL; clear hrL
  go_enter Try.func3, Try.ntmps3
  go_wp2_with fail
  refine (fit_to (HZ.out.alloc _) HF.out).mono ?_
  rintro e w1 ⟨rfl, hb1⟩
  have c1 := cellAt hb1 (b := w.heap.size) (o := 0) (v := .slice a n cap) (by simp)
  have s1 := hb1.size
  simp only [World.size_alloc] at s1
  have d1 : w.heap.size < w1.heap.size := by omega
  have hz1 : Ints w1 a n cap zs := (HZ.out.alloc _).below hb1
  have HZ1 := Lib.hid hz1; clear hz1
  have HB1 := Lib.hid hb1; clear hb1
  go_wp2_with (at_builtin; go_must (refine wpList_append_row rfl _ _ 22 22 rfl 2 i0 (.int .i64 0) 1 8 Try.underlying22 hi hy0 hy1 hy2 rfl rfl (Row.nil (w1.heap.size + 1) _ 1) n (I64 zs) (Src.ofRd Try.underlying22 (HZ1.out.alloc _) (I64_one _)) (by unfold maxLen; omega) (by omega) (by simp) ?_; intro a2 c2 w2 hrow hgr _; rw [Nat.zero_add, List.nil_append] at hrow; have HR := Lib.hid hrow; have HG := Lib.hid hgr; have k1 := cellGr hgr (cellNew _ c1) (by simp [blockOf]); have k2 := cellGr hgr (b := w1.heap.size) (o := 0) (v := .slice none 0 0) (by simp) (by simp [blockOf]); have k3 := freeGr hgr (b := w1.heap.size) (o := 0) (v := .slice none 0 0) (by simp) (by simp) (by simp [blockOf]); have d2 := Nat.lt_of_lt_of_le (show w1.heap.size < (w1.alloc (.cells #[.slice none 0 0] 24)).heap.size by simp) hgr.size; clear hrow hgr c1))
  have hr2 := HR.out.put (p := ⟨w1.heap.size, 0, none⟩) (by simp) (.slice a2 n c2)
  have hb2 : Below w1.heap.size w1 (w2.setCell ⟨w1.heap.size, 0, none⟩ (.slice a2 n c2)) := (((Below.refl _ _).alloc (Nat.le_refl _) _).grown HG.out (by simp) (fun k hk => by cases hk)).setCell (by simp) _
  have e1 : (w2.setCell ⟨w1.heap.size, 0, none⟩ (.slice a2 n c2)).cell? ⟨w.heap.size, 0, none⟩ = some (.slice a n cap) := by rw [World.cell?_setCell_other _ _ _ _ (by first | (simp; done) | (simp; omega))]; exact k1
  have e2 : (w2.setCell ⟨w1.heap.size, 0, none⟩ (.slice a2 n c2)).cell? ⟨w1.heap.size, 0, none⟩ = some (.slice a2 n c2) := World.cell?_setCell_same' _ _ _ (by rw [k2]; rfl)
  have e3 : (w2.setCell ⟨w1.heap.size, 0, none⟩ (.slice a2 n c2)).heap.size = w2.heap.size := by simp [World.setCell]
  clear k1 k2 k3
  generalize hW : w2.setCell ⟨w1.heap.size, 0, none⟩ (.slice a2 n c2) = W at hr2 hb2 e1 e2 e3 ⊢
  clear hW
  have hS : w.heap.size < W.heap.size := by omega
  have hO : w1.heap.size < W.heap.size := by omega
  clear e3 d2
  have HR2 := Lib.hid hr2; clear hr2
  have HB2 := Lib.hid hb2; clear hb2
  refine (seen_to (HR2.out.rd) (by omega) hpos HLL.out HLM.out HM.out).mono ?_
  rintro e w3 ⟨a3, c3, rfl, hr3, hb3⟩
  have HR3 := Lib.hid hr3; clear hr3
  have f1 := cellAt hb3 e1
  have f2 := cellAt hb3 e2
  have g1 : w.heap.size < w3.heap.size := Nat.lt_of_lt_of_le hS hb3.size
  have g2 : w1.heap.size < w3.heap.size := Nat.lt_of_lt_of_le hO hb3.size
  have HB3 := Lib.hid hb3; clear hb3
  have HE1 := Lib.hid e1
  have HE2 := Lib.hid e2
  have hbl : ∀ j, blockOf a3 = some j → W.heap.size ≤ j ∧ j < w3.heap.size := HR3.out.lt
  have HBL := Lib.hid hbl; clear hbl
  clear e1 e2
  go_wp2_with fail
  refine (refSeen_to (((HZ1.out.below (HB2.out.trans (HB3.out.mono (by omega)))).alloc _)) (by omega) HRL.out HLM.out HM.out).mono ?_
  rintro e w4 ⟨a4, c4, rfl, hr4, hb4⟩
  have HR4 := Lib.hid hr4; clear hr4
  have p1 := cellAt hb4 (cellNew _ f1)
  have p2 := cellAt hb4 (cellNew _ f2)
  have p3 := cellAt hb4 (b := w3.heap.size) (o := 0) (v := .slice a3 m c3) (by simp)
  have q1 : w.heap.size < w4.heap.size := by have := hb4.size; simp at this; omega
  have q2 : w1.heap.size < w4.heap.size := by have := hb4.size; simp at this; omega
  have q3 : w3.heap.size < w4.heap.size := by have := hb4.size; simp at this; omega
  have HB4 := Lib.hid hb4; clear hb4
  clear f1 f2 g1 g2 hS hO d1
  have i0' : Ints w4 a n cap zs := (((HZ1.out.below (HB2.out.trans (HB3.out.mono (by have := HB2.out.size; omega)))).alloc _)).below HB4.out
  have i2' : Ints w4 a2 n c2 zs := (((HR2.out.rd.below HB3.out).alloc _)).below HB4.out
  have i3' : Ints w4 a3 m c3 L := (HR3.out.rd.alloc _).below HB4.out
  have i4' : Ints w4 a4 m c4 L := HR4.out.rd
  have e1 := cellNew (Obj.cells #[.slice a4 m c4] 24) p1
  have e2 := cellNew (Obj.cells #[.slice a4 m c4] 24) p2
  have e3 := cellNew (Obj.cells #[.slice a4 m c4] 24) p3
  have e4 : (w4.alloc (Obj.cells #[.slice a4 m c4] 24)).cell? ⟨w4.heap.size, 0, none⟩ = some (.slice a4 m c4) := by simp
  have IS : Hid (Ints (w4.alloc (Obj.cells #[.slice a4 m c4] 24)) a n cap zs) := Lib.hid (i0'.alloc _)
  have IO : Hid (Ints (w4.alloc (Obj.cells #[.slice a4 m c4] 24)) a2 n c2 zs) := Lib.hid (i2'.alloc _)
  have IX : Hid (Ints (w4.alloc (Obj.cells #[.slice a4 m c4] 24)) a3 m c3 L) := Lib.hid (i3'.alloc _)
  have IY : Hid (Ints (w4.alloc (Obj.cells #[.slice a4 m c4] 24)) a4 m c4 L) := Lib.hid (i4'.alloc _)
  have IR : Hid (Row W.heap.size (w4.alloc (Obj.cells #[.slice a4 m c4] 24)) 1 a3 m c3 (I64 L)) := Lib.hid (((HR3.out.alloc _).below HB4.out).alloc _)
  have hb5 : Hid (Below w.heap.size w (w4.alloc (Obj.cells #[.slice a4 m c4] 24))) := by
    have s2 := HB2.out.size
    have s3 := HB3.out.size
    have b1 : Below w.heap.size w w1 := ((Below.refl _ _).alloc (Nat.le_refl _) _).trans (HB1.out.mono (by simp))
    have b2 := b1.trans (HB2.out.mono (by omega))
    have b3 := b2.trans (HB3.out.mono (by omega))
    have b4 := (b3.alloc (by omega) (.cells #[.slice a3 m c3] 24)).trans (HB4.out.mono (by simp; omega))
    exact Lib.hid (b4.alloc (by omega) _)
  have hbW : Hid (Below W.heap.size W (w4.alloc (Obj.cells #[.slice a4 m c4] 24))) := by
    have s3 := HB3.out.size
    exact Lib.hid (((HB3.out.alloc (by omega) (.cells #[.slice a3 m c3] 24)).trans (HB4.out.mono (by simp; omega))).alloc (by have := HB4.out.size; simp at this; omega) _)
  clear i0' i2' i3' i4' p1 p2 p3
  have HEQ : Hid (eqB L L = true) := Lib.hid (eqB_true rfl)
  have HKX : Hid (memB L id = true) := Lib.hid (by rw [← HLL.out]; exact seenL_knows)
  have HFX : Hid (fitB L size = true) := Lib.hid (by rw [← HLL.out]; exact fitB_true.2 (seenL_fit HFP.out))
  cases b
  all_goals
    go_wp2_with fail
    generalize hW5 : w4.alloc (Obj.cells #[.slice a4 m c4] 24) = W5 at e1 e2 e3 e4 IS IO IX IY IR hb5 hbW ⊢
    clear hW5
    have r1 := Grew.cell e1
    have r2 := Grew.cell e2
    have r3 := Grew.cell e3
    have r4 := Grew.cell e4
    refine wp_region_grew (by kernel_rfl) (by kernel_rfl) ?_
    repeat (go_big_quiet_step (first
      | (go_at_call 12; exact grew_call (same_to (IX.out.below (Grew.below _)) (IY.out.below (Grew.below _)) HEQ.out))
      | (go_at_call 14; exact grew_call (refKnows_to (IS.out.below (Grew.below _)) HM.out))
      | (go_at_call 8; exact grew_call (fit_to (IX.out.below (Grew.below _)) HFX.out))
      | (go_at_call 13; with_reducible exact grew_call (knows_to (IO.out.below (Grew.below _)) HM.out))
      | (go_at_call 13; with_reducible exact grew_call (knows_to (IX.out.below (Grew.below _)) HKX.out))))
    refine wpQuiet_nil ?_
    intro _ hw'
    obtain ⟨x5, hw''⟩ := hw'
    subst hw''
    have t3 := r3 x5
    have hb6 := Lib.hid (hb5.out.trans (x5.below.mono hb5.out.size))
    have hbW6 := Lib.hid (hbW.out.trans (x5.below.mono hbW.out.size))
    have hr6 := Lib.hid (IR.out.below x5.below)
    have hs6 := x5.below.size
    clear r1 r2 r3 r4 e1 e2 e3 e4 IS IO IX IY IR hb5 hbW
    generalize x5.val = W6 at t3 hb6 hbW6 hr6 hs6 ⊢
    have HT3 := Lib.hid t3
    go_wp2
    clear t3
    go_loopw [71] (fun t wr => ∃ k : Nat, k ≤ m ∧ t = .int .i64 k ∧ W6.grownBy wr (blockOf a3) ∧ ∃ Lk, Row W.heap.size wr 1 a3 m c3 Lk) (fun t _ => m - (intOf t).toNat)
    case atStart => exact ⟨0, Nat.zero_le _, rfl, grownBy_refl _ _, _, hr6.out⟩
    case round =>
      obtain ⟨k, hk, rfl, hg, Lk, hr⟩ := hrel
      have t7 : wr.cell? ⟨w3.heap.size, 0, none⟩ = some (.slice a3 m c3) := cellGr hg HT3.out (fun e => by have := HBL.out _ e.symm; omega)
      have hbw : Below w.heap.size w wr := hb6.out.grown hg hb6.out.size (fun j hj => by have := HBL.out _ hj; have := HB2.out.size; omega)
      have hbW7 : Below W.heap.size W wr := hbW6.out.grown hg hbW6.out.size (fun j hj => (HBL.out _ hj).1)
      have HBw := Lib.hid hbw; clear hbw
      have HBW7 := Lib.hid hbW7; clear hbW7
      have HG7 := Lib.hid hg; clear hg
      have HR7 := Lib.hid hr; clear hr
      by_cases hlt : k < m
      · obtain ⟨b, off, rfl, hB, hbs, ⟨v, hcv⟩, hfv⟩ := HR7.out.at1 hlt
        go_wp2
        go_roundw
        case rel => exact ⟨k + 1, by omega, by go_num, grownBy_trans HG7.out (grownBy_setAt _ _ _), _, HR7.out.set rfl _⟩
        case measure => simp [intOf]; omega
      · have u1 := cellAt HBW7.out HE1.out
        have u2 := cellAt HBW7.out HE2.out
        go_wp2_with fail
        refine (same_to (HR2.out.rd.below HBW7.out) (HZ.out.below HBw.out) (eqB_true rfl)).mono ?_
        rintro e w8 ⟨rfl, hb8⟩
        have HB8 := Lib.hid hb8; clear hb8
        go_wp2_with fail
        refine (awake _).mono ?_
        rintro e w9 ⟨rfl, hb9⟩
        have HB9 := Lib.hid hb9; clear hb9
        go_wp2
        go_ret
        exact ⟨rfl, HBw.out.trans ((HB8.out.mono HBw.out.size).trans (HB9.out.mono (Nat.le_trans HBw.out.size HB8.out.size)))⟩
end Go.Proofs.Ytoninfccmonaiaa
