import Derived.Test.YtoninfccmonaiaaAskLaw
import Derived.Laws.StructEq
import Derived.Deep.QuietTactic
import Derived.BigQuiet
import Derived.Outline
namespace Go.Proofs.Ytoninfccmonaiaa
open Go.RowKit

/-- The four boxes of the law, and what lies below them. -/
structure L6 (w w2 W : World) (b10 b13 : Nat) (next : Int) (a : Option Addr) (n cap : Nat) (ao : Option Addr) (co : Nat) (v10 u10 v13 u13 : Value) : Prop where
  x0 : Two W w.heap.size (.int .i64 next) (.slice a n cap)
  x9 : Two W w2.heap.size (.int .i64 next) (.slice ao n co)
  x10 : Two W b10 v10 u10
  x13 : Two W b13 v13 u13
  bb : Below w.heap.size w W
  bo : Below w2.heap.size w2 W
  l0 : w.heap.size < w2.heap.size
  l1 : w2.heap.size < b10
  l2 : b10 < b13
section
variable {w w2 W W' : World} {b10 b13 : Nat} {next : Int} {a : Option Addr} {n cap : Nat} {ao : Option Addr} {co : Nat} {v10 u10 v13 u13 : Value}
theorem L6.later (h : L6 w w2 W b10 b13 next a n cap ao co v10 u10 v13 u13) (hb : Below W.heap.size W W') : L6 w w2 W' b10 b13 next a n cap ao co v10 u10 v13 u13 :=
  ⟨h.x0.later hb, h.x9.later hb, h.x10.later hb, h.x13.later hb, h.bb.trans (hb.mono h.bb.size), h.bo.trans (hb.mono h.bo.size), h.l0, h.l1, h.l2⟩
theorem L6.laterF (h : L6 w w2 W b10 b13 next a n cap ao co v10 u10 v13 u13) {B : Nat} (hB : b13 < B) (hb : Below B W W') : L6 w w2 W' b10 b13 next a n cap ao co v10 u10 v13 u13 :=
  have h0 := h.l0
  have h1 := h.l1
  have h2 := h.l2
  ⟨h.x0.laterF (by omega) hb, h.x9.laterF (by omega) hb, h.x10.laterF (by omega) hb, h.x13.laterF hB hb, h.bb.trans (hb.mono (by omega)), h.bo.trans (hb.mono (by omega)), h.l0, h.l1, h.l2⟩
theorem L6.set10 (h : L6 w w2 W b10 b13 next a n cap ao co v10 u10 v13 u13) (v u : Value) : L6 w w2 ((W.setCell ⟨b10, 0, none⟩ v).setCell ⟨b10, 1, none⟩ u) b10 b13 next a n cap ao co v u v13 u13 :=
  have h0 := h.l0
  have h1 := h.l1
  have h2 := h.l2
  ⟨(h.x0.put (p := ⟨b10, 0, none⟩) (by simp; omega) _).put (p := ⟨b10, 1, none⟩) (by simp; omega) _, (h.x9.put (p := ⟨b10, 0, none⟩) (by simp; omega) _).put (p := ⟨b10, 1, none⟩) (by simp; omega) _, (h.x10.set0 v).set1 u, (h.x13.put (p := ⟨b10, 0, none⟩) (by simp; omega) _).put (p := ⟨b10, 1, none⟩) (by simp; omega) _,
   (h.bb.setCell (p := ⟨b10, 0, none⟩) (by simp; omega) _).setCell (p := ⟨b10, 1, none⟩) (by simp; omega) _, (h.bo.setCell (p := ⟨b10, 0, none⟩) (by simp; omega) _).setCell (p := ⟨b10, 1, none⟩) (by simp; omega) _, h.l0, h.l1, h.l2⟩
theorem L6.set13 (h : L6 w w2 W b10 b13 next a n cap ao co v10 u10 v13 u13) (v u : Value) : L6 w w2 ((W.setCell ⟨b13, 0, none⟩ v).setCell ⟨b13, 1, none⟩ u) b10 b13 next a n cap ao co v10 u10 v u :=
  have h0 := h.l0
  have h1 := h.l1
  have h2 := h.l2
  ⟨(h.x0.put (p := ⟨b13, 0, none⟩) (by simp; omega) _).put (p := ⟨b13, 1, none⟩) (by simp; omega) _, (h.x9.put (p := ⟨b13, 0, none⟩) (by simp; omega) _).put (p := ⟨b13, 1, none⟩) (by simp; omega) _, (h.x10.put (p := ⟨b13, 0, none⟩) (by simp; omega) _).put (p := ⟨b13, 1, none⟩) (by simp; omega) _, (h.x13.set0 v).set1 u,
   (h.bb.setCell (p := ⟨b13, 0, none⟩) (by simp; omega) _).setCell (p := ⟨b13, 1, none⟩) (by simp; omega) _, (h.bo.setCell (p := ⟨b13, 0, none⟩) (by simp; omega) _).setCell (p := ⟨b13, 1, none⟩) (by simp; omega) _, h.l0, h.l1, h.l2⟩
end

theorem Row.at3 {B : Nat} {w : World} {a : Option Addr} {n c : Nat} {xs : List Value} (h : Row B w 3 a n c xs) {k : Nat} (hk : k < n) :
    ∃ b off, a = some ⟨b, off, none⟩ ∧ B ≤ b ∧ b < w.heap.size ∧ (∃ v, w.cell? ⟨b, off + k * 3, none⟩ = some v) ∧ w.frozen? ⟨b, off + k * 3, none⟩ = false := by
  obtain ⟨h1, h2, h3, h4⟩ := h
  rcases h4 with ⟨_, h5⟩ | ⟨b, off, ha, hB, hb, hc, hs⟩
  · omega
  · obtain ⟨h5, h6⟩ := hs (k * 3) (by omega)
    exact ⟨b, off, ha, hB, hb, Option.isSome_iff_exists.1 h5, h6⟩

set_option maxHeartbeats 8000000 in
set_option maxRecDepth 100000 in
theorem law6_fit (next : Int) (l : List Ask) (a : Option Addr) (n cap : Nat) (corr : Int) (topic : ByteArray) (tick : Int) (w : World) (h : Asks w a n cap l) (hf : fitA next l = true) (ht0 : 0 ≤ tick) (ht1 : tick ≤ 1099511627776) :
    Calls Try.prog 6 #[.agg #[.int .i64 next, .slice a n cap], .int .i64 corr, .string topic, .int .i64 tick] w (RV w (.bool true)) := by
  have hnl := h.len
  have hn0 := (fitA_parts hf).1.1
  have hn2 : n ≤ 1024 := by have := (fitA_parts hf).1.2.2; omega
  have HN0 := Lib.hid hn0; clear hn0
  have HND := Lib.hid (fitA_nodup hf)
  obtain ⟨next2, l2, n2, k2, e2, hor⟩ := openRes next l topic tick
  obtain ⟨hf2, hl2, hn2'⟩ := hor.fit hf ht0 ht1
  obtain ⟨l3, n3, e3, har⟩ := ansRes l corr topic tick
  have hf3 : fitA next l3 = true := by have := fitA_filter hf (keepB corr topic); rwa [har.1] at this
  have hn3 : n3 ≤ 1024 := by have := (fitA_parts hf3).1.2.2; have := har.2.1; omega
  obtain ⟨l4, n4, g4, m4, her⟩ := expRes l tick
  have hf4 : fitA next l4 = true := by have := fitA_filter hf (stayB tick); rwa [her.1] at this
  have hn4 : n4 ≤ 1024 := by have := (fitA_parts hf4).1.2.2; have := her.2.1; omega
  have hm4 : m4 ≤ 1024 := by have h1 := List.length_filter_le (goneB tick) l; have h2 := her.2.2.1; have h3 := her.2.2.2; rw [h2] at h1; omega
  have H := Lib.hid h; clear h
  have HNL := Lib.hid hnl; clear hnl
  have HF := Lib.hid hf; clear hf
  have HOR := Lib.hid hor; clear hor
  have HF2 := Lib.hid hf2; clear hf2
  have HL2 := Lib.hid hl2; clear hl2
  have HAR := Lib.hid har; clear har
  have HF3 := Lib.hid hf3; clear hf3
  have HER := Lib.hid her; clear her
  have HF4 := Lib.hid hf4; clear hf4
  have hd0 : decide (tick < 0) = false := by simp; omega
  have hd1 : decide (1099511627776 < tick) = false := by simp; omega
  clear ht0 ht1
  go_enter Try.func6, Try.ntmps6
  have HX := Lib.hid (Two.new w (.int .i64 next) (.slice a n cap) 37)
  have HB := Lib.hid ((Below.refl _ w).alloc (Nat.le_refl _) (Obj.cells #[Value.int .i64 next, Value.slice a n cap] 37))
  go_wp2_with fail
  refine (askFit_to (H.out.below HB.out) HF.out).mono ?_
  rintro e w1 ⟨rfl, hb1⟩
  have hs1 := hb1.size
  simp only [World.size_alloc] at hs1
  have HB1 := Lib.hid (HB.out.trans (hb1.mono (by simp)))
  have HX1 := Lib.hid (HX.out.later hb1)
  clear hb1 HX HB
  obtain ⟨x0, x1, _, _⟩ := HX1.out
  go_wp2_with fail
  clear x0 x1
  refine (askCopy next l a n cap _ (H.out.below HB1.out) (by omega)).mono ?_
  rintro e w2 ⟨ao, co, rfl, hr2, hb2⟩
  have HRO := Lib.hid hr2.rd
  have hs2 := hb2.size
  have HB2 := Lib.hid ((HB1.out.trans (hb2.mono (by omega))).alloc (by omega) (Obj.cells #[Value.int .i64 next, Value.slice ao n co] 37))
  have HX2 := Lib.hid ((HX1.out.later hb2).alloc (Obj.cells #[Value.int .i64 next, Value.slice ao n co] 37))
  have HY2 := Lib.hid (Two.new w2 (.int .i64 next) (.slice ao n co) 37)
  have HO2 := Lib.hid ((Below.refl w2.heap.size w2).alloc (Nat.le_refl _) (Obj.cells #[Value.int .i64 next, Value.slice ao n co] 37))
  have hl0 : w.heap.size < w2.heap.size := by omega
  obtain ⟨x0, x1, _, _⟩ := HX1.out.later hb2
  clear hb2 hr2 HX1 HB1
  go_wp2_with fail
  clear x0 x1
  refine (openN_any HOR.out (HRO.out.below HO2.out) (by omega) HN0.out).mono ?_
  rintro e w3 ⟨a3, c3, rfl, hr3, hb3⟩
  have hs3 := hb3.size
  simp only [World.size_alloc] at hs3 hr3
  have HR3 := Lib.hid hr3
  have HX3 := Lib.hid (HX2.out.later hb3)
  have HY3 := Lib.hid (HY2.out.later hb3)
  have HB3 := Lib.hid (HB2.out.trans (hb3.mono (by simp; omega)))
  have HO3 := Lib.hid (HO2.out.trans (hb3.mono (by simp)))
  clear hb3 hr3 HX2 HY2 HB2 HO2
  obtain ⟨x0, x1, _, _⟩ := HX3.out
  obtain ⟨y0, y1, _, _⟩ := HY3.out
  have hl1 : w.heap.size < w3.heap.size := by omega
  have hb10 : Below w3.heap.size w3 (w3.alloc (Obj.cells #[Value.int .i64 next2, Value.slice a3 n2 c3] 37)) := (Below.refl _ _).alloc (Nat.le_refl _) _
  go_wp2_with fail
  clear x0 x1 y0 y1
  refine (openR_any HOR.out (H.out.below (HB3.out.trans (hb10.mono (by omega)))) (by omega) HN0.out).mono ?_
  rintro e w4 ⟨a4, c4, rfl, hr4, hb4⟩
  have hs4 := hb4.size
  simp only [World.size_alloc] at hs4 hr4
  have hb13 : Below w4.heap.size w4 (w4.alloc (Obj.cells #[Value.int .i64 next2, Value.slice a4 n2 c4] 37)) := (Below.refl _ _).alloc (Nat.le_refl _) _
  have HR4 := Lib.hid (hr4.below hb13)
  have hq10 : Below w3.heap.size w3 w4 := hb10.trans (hb4.mono (by simp))
  have hq : Below w3.heap.size w3 (w4.alloc (Obj.cells #[Value.int .i64 next2, Value.slice a4 n2 c4] 37)) := hq10.trans (hb13.mono (by omega))
  have HS := Lib.hid (⟨HX3.out.later hq, HY3.out.later hq, ((Two.new w3 (.int .i64 next2) (.slice a3 n2 c3) 37).later hb4).later hb13, Two.new w4 (.int .i64 next2) (.slice a4 n2 c4) 37, HB3.out.trans (hq.mono (by omega)), HO3.out.trans (hq.mono (by omega)), by omega, by omega, by omega⟩ : L6 w w2 (w4.alloc (Obj.cells #[Value.int .i64 next2, Value.slice a4 n2 c4] 37)) w3.heap.size w4.heap.size next a n cap ao co (.int .i64 next2) (.slice a3 n2 c3) (.int .i64 next2) (.slice a4 n2 c4))
  have HR3' := Lib.hid (HR3.out.below hq)
  obtain ⟨z0, z1, _, _⟩ := (Two.new w3 (.int .i64 next2) (.slice a3 n2 c3) 37).later hb4
  have hl2 : w3.heap.size < w4.heap.size := by omega
  clear hb4 hr4 hb13 hq hq10 hb10 HX3 HY3 HB3 HO3 HR3
  go_wp2_with fail
  clear z0 z1
  refine (askSame_refl HR3'.out.rd HR4.out.rd).mono ?_
  rintro e w5 ⟨rfl, hb5⟩
  have HS5 := Lib.hid (HS.out.later hb5)
  have HR5 := Lib.hid (HR3'.out.below hb5)
  clear hb5 HS HR3' HR4
  obtain ⟨⟨x0, x1, _, _⟩, ⟨y0, y1, _, _⟩, ⟨z0, z1, _, _⟩, ⟨u0, u1, _, _⟩, _, _, _, _, _⟩ := HS5.out
  go_wp2_with fail
  clear x0 x1 y0 y1 z0 z1 u0 u1
  refine (askFit_to HR5.out.rd HF2.out).mono ?_
  rintro e w6 ⟨rfl, hb6⟩
  have HS6 := Lib.hid (HS5.out.later hb6)
  clear hb6 HS5 HR5
  obtain ⟨⟨x0, x1, _, _⟩, ⟨y0, y1, _, _⟩, ⟨z0, z1, _, _⟩, ⟨u0, u1, _, _⟩, _, _, _, _, _⟩ := HS6.out
  go_wp2_with fail
  clear x0 x1 y0 y1 z0 z1 u0 u1
  refine (ansN_any HAR.out (HRO.out.below HS6.out.bo) (by omega) HND.out).mono ?_
  rintro e w7 ⟨a7, c7, rfl, hr7, hb7⟩
  have hs6 := HS6.out.x13.lt
  have hs7 := hb7.size
  have HS7 := Lib.hid (HS6.out.later hb7)
  have HR7 := Lib.hid ((hr7.put (p := ⟨w3.heap.size, 0, none⟩) (by simp; omega) (.int .i64 next)).put (p := ⟨w3.heap.size, 1, none⟩) (by simp; omega) (.slice a7 n3 c7))
  clear hb7 hr7 HS6
  obtain ⟨⟨x0, x1, x2, x3⟩, ⟨y0, y1, y2, y3⟩, ⟨z0, z1, z2, z3⟩, ⟨u0, u1, u2, u3⟩, _, _, l0, l1, l2⟩ := HS7.out
  have HS8 := Lib.hid (HS7.out.set10 (.int .i64 next) (.slice a7 n3 c7))
  clear HS7
  go_wp2_with fail
  clear x0 x1 x2 x3 y0 y1 y2 y3 z0 z1 z2 z3 u0 u1 u2 u3
  refine (ansR_any HAR.out (H.out.below HS8.out.bb) (by omega)).mono ?_
  rintro e w8 ⟨a8, c8, rfl, hr8, hb8⟩
  have hs8 := hb8.size
  simp only [World.size_setCell] at hs8 hr8
  have HS9 := Lib.hid (HS8.out.later hb8)
  have HR9 := Lib.hid (((HR7.out.below hb8).put (p := ⟨w4.heap.size, 0, none⟩) (by simp; omega) (.int .i64 next)).put (p := ⟨w4.heap.size, 1, none⟩) (by simp; omega) (.slice a8 n3 c8))
  have HQ9 := Lib.hid ((hr8.put (p := ⟨w4.heap.size, 0, none⟩) (by simp; omega) (.int .i64 next)).put (p := ⟨w4.heap.size, 1, none⟩) (by simp; omega) (.slice a8 n3 c8))
  clear hb8 hr8 HS8 HR7
  obtain ⟨⟨x0, x1, x2, x3⟩, ⟨y0, y1, y2, y3⟩, ⟨z0, z1, z2, z3⟩, ⟨u0, u1, u2, u3⟩, _, _, l0, l1, l2⟩ := HS9.out
  have HSA := Lib.hid (HS9.out.set13 (.int .i64 next) (.slice a8 n3 c8))
  clear HS9
  go_wp2_with fail
  clear x0 x1 x2 x3 y0 y1 y2 y3 z0 z1 z2 z3 u0 u1 u2 u3
  refine (askSame_refl HR9.out.rd HQ9.out.rd).mono ?_
  rintro e w9 ⟨rfl, hb9⟩
  have hs9 := hb9.size
  simp only [World.size_setCell] at hs9
  have HSB := Lib.hid (HSA.out.later hb9)
  have HRB := Lib.hid (HR9.out.below hb9)
  clear hb9 HSA HR9 HQ9
  obtain ⟨⟨x0, x1, x2, x3⟩, ⟨y0, y1, y2, y3⟩, ⟨z0, z1, z2, z3⟩, ⟨u0, u1, u2, u3⟩, _, _, l0, l1, l2⟩ := HSB.out
  go_wp2_with fail
  clear x0 x1 x2 x3 y0 y1 y2 y3 z0 z1 z2 z3 u0 u1 u2 u3
  refine (askFit_to HRB.out.rd HF3.out).mono ?_
  rintro e wa ⟨rfl, hba⟩
  have hsa := hba.size
  have HSC := Lib.hid (HSB.out.later hba)
  clear hba HSB HRB
  obtain ⟨⟨x0, x1, x2, x3⟩, ⟨y0, y1, y2, y3⟩, ⟨z0, z1, z2, z3⟩, ⟨u0, u1, u2, u3⟩, _, _, l0, l1, l2⟩ := HSC.out
  go_wp2_with fail
  clear x0 x1 x2 x3 y0 y1 y2 y3 z0 z1 z2 z3 u0 u1 u2 u3
  refine (expN_any HER.out (HRO.out.below HSC.out.bo) (by omega) HND.out).mono ?_
  rintro e wb ⟨ab, cb, gb, db, rfl, hrb, hgb, hbb⟩
  have hsb := hbb.size
  have HSD := Lib.hid (HSC.out.later hbb)
  have HRD := Lib.hid ((hrb.put (p := ⟨w3.heap.size, 0, none⟩) (by simp; omega) (.int .i64 next)).put (p := ⟨w3.heap.size, 1, none⟩) (by simp; omega) (.slice ab n4 cb))
  have HGD := Lib.hid ((hgb.put (p := ⟨w3.heap.size, 0, none⟩) (by simp; omega) (.int .i64 next)).put (p := ⟨w3.heap.size, 1, none⟩) (by simp; omega) (.slice ab n4 cb))
  clear hbb hrb hgb HSC
  obtain ⟨⟨x0, x1, x2, x3⟩, ⟨y0, y1, y2, y3⟩, ⟨z0, z1, z2, z3⟩, ⟨u0, u1, u2, u3⟩, _, _, l0, l1, l2⟩ := HSD.out
  have HSE := Lib.hid (HSD.out.set10 (.int .i64 next) (.slice ab n4 cb))
  clear HSD
  go_wp2_with fail
  clear x0 x1 x2 x3 y0 y1 y2 y3 z0 z1 z2 z3 u0 u1 u2 u3
  refine (expR_any HER.out (H.out.below HSE.out.bb) (by omega)).mono ?_
  rintro e wc ⟨ac, cc, gc, dc, rfl, hrc, hgc, hbc⟩
  have hsc := hbc.size
  simp only [World.size_setCell] at hsc hrc hgc
  have HSF := Lib.hid (HSE.out.later hbc)
  have HRF := Lib.hid (((HRD.out.below hbc).put (p := ⟨w4.heap.size, 0, none⟩) (by simp; omega) (.int .i64 next)).put (p := ⟨w4.heap.size, 1, none⟩) (by simp; omega) (.slice ac n4 cc))
  have HGF := Lib.hid (((HGD.out.below hbc).put (p := ⟨w4.heap.size, 0, none⟩) (by simp; omega) (.int .i64 next)).put (p := ⟨w4.heap.size, 1, none⟩) (by simp; omega) (.slice ac n4 cc))
  have HQF := Lib.hid ((hrc.put (p := ⟨w4.heap.size, 0, none⟩) (by simp; omega) (.int .i64 next)).put (p := ⟨w4.heap.size, 1, none⟩) (by simp; omega) (.slice ac n4 cc))
  have HHF := Lib.hid ((hgc.put (p := ⟨w4.heap.size, 0, none⟩) (by simp; omega) (.int .i64 next)).put (p := ⟨w4.heap.size, 1, none⟩) (by simp; omega) (.slice ac n4 cc))
  clear hbc hrc hgc HSE HRD HGD
  obtain ⟨⟨x0, x1, x2, x3⟩, ⟨y0, y1, y2, y3⟩, ⟨z0, z1, z2, z3⟩, ⟨u0, u1, u2, u3⟩, _, _, l0, l1, l2⟩ := HSF.out
  have HSG := Lib.hid (HSF.out.set13 (.int .i64 next) (.slice ac n4 cc))
  clear HSF
  go_wp2_with fail
  clear x0 x1 x2 x3 y0 y1 y2 y3 z0 z1 z2 z3 u0 u1 u2 u3
  refine (askSame_refl HRF.out.rd HQF.out.rd).mono ?_
  rintro e wd ⟨rfl, hbd⟩
  have hsd := hbd.size
  simp only [World.size_setCell] at hsd
  have HSH := Lib.hid (HSG.out.later hbd)
  have HRH := Lib.hid (HRF.out.below hbd)
  have HGH := Lib.hid (HGF.out.below hbd)
  have HHH := Lib.hid (HHF.out.below hbd)
  clear hbd HSG HRF HGF HQF HHF
  obtain ⟨⟨x0, x1, x2, x3⟩, ⟨y0, y1, y2, y3⟩, ⟨z0, z1, z2, z3⟩, ⟨u0, u1, u2, u3⟩, _, _, l0, l1, l2⟩ := HSH.out
  go_wp2_with fail
  clear x0 x1 x2 x3 y0 y1 y2 y3 z0 z1 z2 z3 u0 u1 u2 u3
  refine (askFit_to HRH.out.rd HF4.out).mono ?_
  rintro e we ⟨rfl, hbe⟩
  have hse := hbe.size
  have HSI := Lib.hid (HSH.out.later hbe)
  have HRI := Lib.hid (HRH.out.below hbe)
  have HGI := Lib.hid (HGH.out.below hbe)
  have HHI := Lib.hid (HHH.out.below hbe)
  clear hbe HSH HRH HGH HHH
  go_wp2_with fail
  have hgl := (show Asks we gb m4 db g4 from HGI.out.rd).bounds
  have hhl := (show Asks we gc m4 dc g4 from HHI.out.rd).bounds
  have hg4 := fun k (hk : k < m4) => (show Asks we gb m4 db g4 from HGI.out.rd).at hk
  have hh4 := fun k (hk : k < m4) => (show Asks we gc m4 dc g4 from HHI.out.rd).at hk
  have HG4 := Lib.hid hg4; clear hg4
  have HH4 := Lib.hid hh4; clear hh4
  go_loopw [129] (fun t wr => ∃ i k : Nat, i ≤ m4 ∧ t = .int .i64 i ∧ wr = we.drewN k) (fun t _ => m4 - (intOf t).toNat)
  case atStart => exact ⟨0, 0, Nat.zero_le _, rfl, rfl⟩
  case round =>
    obtain ⟨i, k, hi, rfl, rfl⟩ := hrel
    by_cases hlt : i < m4
    · obtain ⟨b1, off1, rfl, hb1, p0, p1, p2⟩ := HG4.out i hlt
      obtain ⟨b2, off2, rfl, hb2, q0, q1, q2⟩ := HH4.out i hlt
      have hi0 : (0 : Int) ≤ (i : Int) ∧ (i : Int) < (m4 : Int) := by omega
      have hne := neq53 (g4[i]?.getD noAsk) (g4[i]?.getD noAsk)
      generalize g4[i]?.getD noAsk = x at p0 p1 p2 q0 q1 q2 hne
      simp only [ne_eq, not_true, decide_false] at hne
      go_wp2
      go_quiet (fail)
      go_wp2
      go_roundw
      case rel => exact ⟨i + 1, _, by omega, by go_num, rfl⟩
      case measure => simp [intOf]; omega
    · obtain rfl : i = m4 := by omega
      have HS1 := Lib.hid (HSI.out.later (below_drewN (Below.refl _ _) _ : Below we.heap.size we (we.drewN k)))
      have HR1 := Lib.hid (HRI.out.below (below_drewN (Below.refl _ _) _ : Below we.heap.size we (we.drewN k)))
      generalize we.drewN k = wf at HS1 HR1 ⊢
      obtain ⟨⟨x0, x1, x2, x3⟩, ⟨y0, y1, y2, y3⟩, ⟨z0, z1, z2, z3⟩, ⟨u0, u1, u2, u3⟩, _, _, l0, l1, l2⟩ := HS1.out
      go_wp2
      clear x0 x1 x2 x3 y0 y1 y2 y3 z0 z1 z2 z3 u0 u1 u2 u3
      clear HG4 HH4 HGI HHI HSI HRI
      go_loopw [145] (fun t wr => ∃ (j : Nat) (vs : List Value), j ≤ n4 ∧ t = .int .i64 j ∧ L6 w w2 wr w3.heap.size w4.heap.size next a n cap ao co (.int .i64 next) (.slice ab n4 cb) (.int .i64 next) (.slice ac n4 cc) ∧ Row wa.heap.size wr 3 ab n4 cb vs) (fun t _ => n4 - (intOf t).toNat)
      case atStart => exact ⟨0, _, Nat.zero_le _, rfl, HS1.out, HR1.out⟩
      case round =>
        clear HS1 HR1
        obtain ⟨j, vs, hj, rfl, hls, hro⟩ := hrel
        have HLS := Lib.hid hls; clear hls
        have HRO1 := Lib.hid hro; clear hro
        by_cases hlt : j < n4
        · obtain ⟨b1, off1, rfl, hb1, hb2, ⟨v, hv⟩, hfz⟩ := HRO1.out.at3 hlt
          obtain ⟨-, hbc, hbm, -⟩ := HRO1.out
          unfold maxLen at hbm
          have hj0 : (0 : Int) ≤ (j : Int) ∧ (j : Int) < (n4 : Int) := by omega
          obtain ⟨⟨x0, x1, x2, x3⟩, ⟨y0, y1, y2, y3⟩, ⟨z0, z1, z2, z3⟩, ⟨u0, u1, u2, u3⟩, _, _, _, _, _⟩ := HLS.out
          go_wp2
          go_roundw
          case rel => exact ⟨j + 1, _, by omega, by go_num, HLS.out.laterF (B := wa.heap.size) (by omega) ((Below.refl _ _).setCell (p := ⟨b1, off1 + j * 3, none⟩) hb1 _), HRO1.out.set rfl _⟩
          case measure => simp [intOf]; omega
        · obtain rfl : j = n4 := by omega
          obtain ⟨⟨x0, x1, x2, x3⟩, ⟨y0, y1, y2, y3⟩, ⟨z0, z1, z2, z3⟩, ⟨u0, u1, u2, u3⟩, _, _, _, _, _⟩ := HLS.out
          go_wp2_with fail
          refine (askSame_refl (HRO.out.below HLS.out.bo) (H.out.below HLS.out.bb)).mono ?_
          rintro e wx ⟨rfl, hbx⟩
          go_wp2_with fail
          refine (awakeA _).mono ?_
          rintro e wy ⟨rfl, hby⟩
          go_wp2
          go_ret
          exact ⟨rfl, (HLS.out.bb.trans (hbx.mono HLS.out.bb.size)).trans (hby.mono (Nat.le_trans HLS.out.bb.size hbx.size))⟩
end Go.Proofs.Ytoninfccmonaiaa
