/-
  DatumEquals (walk). Not a statement of the seat.
-/
import Derived.Test.YtofpdhkdnbnobaaDoorSteps
import Derived.Test.YtofpdhkdnbnobaaDoorCopy
import Derived.Test.YtofpdhkdnbnobaaDoorEqual
import Derived.Test.YtofpdhkdnbnobaaDoorPrints
namespace Go.Proofs.YtofpdhkdnbnobaaDoor
open Go.RowKit

theorem stB {w3 W : World} {p : Nat} {v0 v1 v2 v3 v4 : Value} (h : Below w3.heap.size w3 W) (hp : w3.heap.size ≤ p) : Below w3.heap.size w3 (st5 W p v0 v1 v2 v3 v4) :=
  h.trans ((st5_kept (w := W) (b := p) v0 v1 v2 v3 v4).below h.size (fun x hx e => by unfold N1 at e; omega))
/-- two copies in their boxes -/
structure RelE (w3 : World) (a b : Dt) (p5 p6 : Nat) (l5 : Option Addr) (n5 c5 : Nat) (l6 : Option Addr) (n6 c6 : Nat) (wx : World) : Prop where
  hb : Below w3.heap.size w3 wx
  ba : Blk wx p5 (vsD a l5 n5 c5)
  bb : Blk wx p6 (vsD b l6 n6 c6)
  aa : Ar (fun x => x < wx.heap.size) wx a l5 n5 c5
  ab : Ar (fun x => x < wx.heap.size) wx b l6 n6 c6
theorem relE {w3 W : World} {a b : Dt} {p5 p6 : Nat} {l5 l6 : Option Addr} {n5 c5 n6 c6 : Nat} {ps : List Nat} (h : Below w3.heap.size w3 W) (h5 : Blk W p5 (V5 0 0 0 ⟨#[]⟩ none 0 0)) (h6 : Blk W p6 (V5 0 0 0 ⟨#[]⟩ none 0 0)) (q5 : w3.heap.size ≤ p5) (q6 : w3.heap.size ≤ p6) (hne : p5 ≠ p6)
    (g5 : Got ps w3 (st5 (st5 W p5 (.int .i64 a.k) (.int .i64 a.i) (.int .u64 a.b) (.string ⟨a.t.toArray⟩) (.slice l5 n5 c5)) p6 (.int .i64 b.k) (.int .i64 b.i) (.int .u64 b.b) (.string ⟨b.t.toArray⟩) (.slice l6 n6 c6)) a.l n5 l5 c5)
    (g6 : Got ps w3 (st5 (st5 W p5 (.int .i64 a.k) (.int .i64 a.i) (.int .u64 a.b) (.string ⟨a.t.toArray⟩) (.slice l5 n5 c5)) p6 (.int .i64 b.k) (.int .i64 b.i) (.int .u64 b.b) (.string ⟨b.t.toArray⟩) (.slice l6 n6 c6)) b.l n6 l6 c6) :
    RelE w3 a b p5 p6 l5 n5 c5 l6 n6 c6 (st5 (st5 W p5 (.int .i64 a.k) (.int .i64 a.i) (.int .u64 a.b) (.string ⟨a.t.toArray⟩) (.slice l5 n5 c5)) p6 (.int .i64 b.k) (.int .i64 b.i) (.int .u64 b.b) (.string ⟨b.t.toArray⟩) (.slice l6 n6 c6)) :=
  ⟨stB (stB h q5) q6, (st5_blk h5 _ _ _ _ _).keep (st5_kept _ _ _ _ _) (fun e => hne e), st5_blk (h6.keep (st5_kept _ _ _ _ _) (fun e => hne (Eq.symm e))) _ _ _ _ _, g5.ar, g6.ar⟩
theorem Got.of0 {w3 W W' : World} {f : Fo} {n c : Nat} {l : Option Addr} (h : FoAt (fun x => W.heap.size ≤ x) W' f l n c) (h3 : w3.heap.size ≤ W.heap.size) : Got [] w3 W' f n l c := .of h h3 (fun p hp => by cases hp)
theorem Got.of1 {w3 W W' : World} {f : Fo} {n c p : Nat} {l : Option Addr} (h : FoAt (fun x => W.heap.size ≤ x) W' f l n c) (h3 : w3.heap.size ≤ W.heap.size) (hp : p < W.heap.size) : Got [p] w3 W' f n l c := .of h h3 (fun x hx => by
  rw [List.mem_singleton] at hx
  omega)
theorem Got.of2 {w3 W W' : World} {f : Fo} {n c p q : Nat} {l : Option Addr} (h : FoAt (fun x => W.heap.size ≤ x) W' f l n c) (h3 : w3.heap.size ≤ W.heap.size) (hp : p < W.heap.size ∧ q < W.heap.size) : Got [p, q] w3 W' f n l c := .of h h3 (fun x hx => by
  rcases List.mem_cons.1 hx with e | hx
  · omega
  · rw [List.mem_singleton] at hx
    omega)
theorem okD_size {d : Dt} (h : okD d) : sizeF d.l ≤ 100000 := by have := h.1; omega
theorem okD_fits {d : Dt} (h : okD d) : fitsM d.k d.i d.b d.t d.l.len = true ∧ rightM d.l = true := by
  have h3 := h.2.2
  rw [right_fo, Bool.and_eq_true] at h3
  exact h3
theorem Ar.any {S : Nat → Prop} {w : World} {d : Dt} {l : Option Addr} {n c : Nat} (h : Ar S w d l n c) : Ar (fun x => x < w.heap.size) w d l n c :=
  ⟨h.at'.same (fun _ _ _ => rfl) (fun x hx _ => h.lt x hx), fun _ hx => hx⟩
theorem Ar.copy {S : Nat → Prop} {w : World} {d : Dt} {l : Option Addr} {n c : Nat} (h : Ar S w d l n c) (ho : okD d) :
    Calls Tryd.prog 27 #[.agg #[.int .i64 d.k, .int .i64 d.i, .int .u64 d.b, .string ⟨d.t.toArray⟩, .slice l n c]] w (CPP d.k d.i d.b d.t d.l w) :=
  copyG d.l d.k d.i d.b d.t l n c S w h.at' h.lt (okD_size ho)
theorem Ar.equal {S : Nat → Prop} {w : World} {d e : Dt} {l l' : Option Addr} {n c n' c' : Nat} (h : Ar S w d l n c) (h' : Ar S w e l' n' c') (ho : okD d) (ho' : okD e) :
    Calls Tryd.prog 29 #[.agg #[.int .i64 d.k, .int .i64 d.i, .int .u64 d.b, .string ⟨d.t.toArray⟩, .slice l n c], .agg #[.int .i64 e.k, .int .i64 e.i, .int .u64 e.b, .string ⟨e.t.toArray⟩, .slice l' n' c']] w (EUP (eqD d e) w) :=
  equalN h.at' h'.at' h.lt (okD_fits ho).1 (okD_fits ho).2 (okD_fits ho').1 (okD_fits ho').2 (okD_size ho) (okD_size ho')
theorem Ar.requal {S : Nat → Prop} {w : World} {d e : Dt} {l l' : Option Addr} {n c n' c' : Nat} (h : Ar S w d l n c) (h' : Ar S w e l' n' c') (ho : okD d) (ho' : okD e) :
    Calls Tryd.prog 30 #[.agg #[.int .i64 d.k, .int .i64 d.i, .int .u64 d.b, .string ⟨d.t.toArray⟩, .slice l n c], .agg #[.int .i64 e.k, .int .i64 e.i, .int .u64 e.b, .string ⟨e.t.toArray⟩, .slice l' n' c']] w (EUP (eqD d e) w) := by
  refine reqG d.l e.l d.k d.i d.b e.k e.i e.b d.t e.t l l' n c n' c' S w h.at' h'.at' h.lt (fun e9 => ?_) (fun e9 => ?_) (shape_right _ (okD_fits ho).2) (shape_right _ (okD_fits ho').2)
  · have := (okD_fits ho).1; rw [e9] at this; simp [fitsM] at this; omega
  · have := (okD_fits ho').1; rw [e9] at this; simp [fitsM] at this; omega

set_option maxRecDepth 100000 in
set_option maxHeartbeats 8000000 in
theorem equalsT {S : Nat → Prop} {a b : Dt} {la lb : Option Addr} {na ca nb cb : Nat} {w : World} (hA : Ar S w a la na ca) (hB : Ar S w b lb nb cb) (hL : Lb w) (hpa : a.fo.plain) (hpb : b.fo.plain) :
    Calls Tryd.prog 9 #[av a la na ca, av b lb nb cb] w (fun e w' => e = .returned (.bool true) ∧ Below w.heap.size w w') := by
  unfold av
  obtain ⟨HX, HY, HBW⟩ := two_boxes w a b la lb na ca nb cb
  have HA := Lib.hid hA
  have HB := Lib.hid hB
  have HL := Lib.hid hL
  have HPA := Lib.hid hpa
  have HPB := Lib.hid hpb
  have hVA := fun (wx : World) (hx : Below w.heap.size w wx) => (HA.out.below hx).valid
  have hVB := fun (wx : World) (hx : Below w.heap.size w wx) => (HB.out.below hx).valid
  have HAW := Lib.hid (fun (wx : World) (hx : Below w.heap.size w wx) => awakeT (HL.out.below hx HL.out.size))
  have hoa := rvalid_ok (d := a)
  have hob := rvalid_ok (d := b)
  generalize rvalidM a = va at *
  generalize rvalidM b = vb at *
  clear hA hB hL hpa hpb
  go_enter Tryd.func9, Tryd.ntmps9
  go_upto_region 1 with (fail)
  change Code.wp _ _ _ _ (twoW w a b la lb na ca nb cb)
  generalize twoW w a b la lb na ca nb cb = w1 at *
  obtain ⟨p, hp⟩ : ∃ p, p = w.heap.size := ⟨_, rfl⟩
  obtain ⟨q, hq⟩ : ∃ q, q = w.heap.size + 1 := ⟨_, rfl⟩
  rw [← hp] at HX
  rw [← hq] at HY
  rw [← hq, ← hp]
  have hKEEP := keep_of HX HY
  have x0 := HX.cell 0 rfl
  have x1 := HX.cell 1 rfl
  have x2 := HX.cell 2 rfl
  have x3 := HX.cell 3 rfl
  have x4 := HX.cell 4 rfl
  have y0 := HY.cell 0 rfl
  have y1 := HY.cell 1 rfl
  have y2 := HY.cell 2 rfl
  have y3 := HY.cell 3 rfl
  have y4 := HY.cell 4 rfl
  have HKEEP := Lib.hid hKEEP
  have HBW := Lib.hid HBW
  have HC1 := Lib.hid (hVA w1 HBW.out)
  have HVB := Lib.hid hVB
  clear HX HY hKEEP hVA hVB hp hq
  cases va
  · clear hoa hob
    go_wp2_with (first
      | (go_at_call 12; (with_reducible refine HC1.out.mono ?_); rintro e2 w2 ⟨rfl, hB⟩
         have HB2 := Lib.hid (HBW.out.trans (hB.mono HBW.out.size))
         have HC2 := Lib.hid (HAW.out w2 HB2.out)
         clear hB)
      | (go_at_call 13; (with_reducible refine HC2.out.mono ?_); rintro e3 w3 ⟨rfl, hB⟩; have HB3 := Lib.hid (HB2.out.trans (hB.mono HB2.out.size)); clear hB))
    go_ret
    exact ⟨rfl, HB3.out⟩
  cases vb
  · clear hoa hob
    go_wp2_with (first
      | (go_at_call 12; (with_reducible refine HC1.out.mono ?_); rintro e2 w2 ⟨rfl, hB⟩
         have HB2 := Lib.hid (HBW.out.trans (hB.mono HBW.out.size))
         have HC2 := Lib.hid (HVB.out w2 HB2.out)
         replace x0 := cellAt hB x0; replace x1 := cellAt hB x1; replace x2 := cellAt hB x2; replace x3 := cellAt hB x3; replace x4 := cellAt hB x4; replace y0 := cellAt hB y0; replace y1 := cellAt hB y1; replace y2 := cellAt hB y2; replace y3 := cellAt hB y3; replace y4 := cellAt hB y4
         clear hB)
      | (go_at_call 12; (with_reducible refine HC2.out.mono ?_); rintro e3 w3 ⟨rfl, hB⟩
         have HB3 := Lib.hid (HB2.out.trans (hB.mono HB2.out.size))
         have HC3 := Lib.hid (HAW.out w3 HB3.out)
         clear hB)
      | (go_at_call 13; (with_reducible refine HC3.out.mono ?_); rintro e4 w4 ⟨rfl, hB⟩; have HB4 := Lib.hid (HB3.out.trans (hB.mono HB3.out.size)); clear hB))
    go_ret
    exact ⟨rfl, HB4.out⟩
  replace hoa := hoa rfl
  replace hob := hob rfl
  have HOK := Lib.hid (And.intro hoa hob)
  clear hoa hob
  go_wp2_with (first
    | (go_at_call 12; (with_reducible refine HC1.out.mono ?_); rintro e2 w2 ⟨rfl, hB⟩
       have HB2 := Lib.hid (HBW.out.trans (hB.mono HBW.out.size))
       have HC2 := Lib.hid (HVB.out w2 HB2.out)
       have HR2 := Lib.hid hB
       replace x0 := cellAt hB x0; replace x1 := cellAt hB x1; replace x2 := cellAt hB x2; replace x3 := cellAt hB x3; replace x4 := cellAt hB x4; replace y0 := cellAt hB y0; replace y1 := cellAt hB y1; replace y2 := cellAt hB y2; replace y3 := cellAt hB y3; replace y4 := cellAt hB y4
       clear hB)
    | (go_at_call 12; (with_reducible refine HC2.out.mono ?_); rintro e3 w3 ⟨rfl, hB⟩
       have HB3 := Lib.hid (HB2.out.trans (hB.mono HB2.out.size))
       have HR3 := Lib.hid (HR2.out.trans (hB.mono HR2.out.size))
       replace x0 := cellAt hB x0; replace x1 := cellAt hB x1; replace x2 := cellAt hB x2; replace x3 := cellAt hB x3; replace x4 := cellAt hB x4; replace y0 := cellAt hB y0; replace y1 := cellAt hB y1; replace y2 := cellAt hB y2; replace y3 := cellAt hB y3; replace y4 := cellAt hB y4
       clear hB))
  clear HC1 HC2 HVB HKEEP
  have HC5 := Lib.hid (fun (wx : World) (hx : Below w3.heap.size w3 wx) => (HA.out.below (HB3.out.trans (hx.mono HB3.out.size))).copy HOK.out.1)
  have HC6 := Lib.hid (fun (wx : World) (hx : Below w3.heap.size w3 wx) => (HB.out.below (HB3.out.trans (hx.mono HB3.out.size))).copy HOK.out.2)
  have HKEEP := Lib.hid (show ∀ wx, Below w3.heap.size w3 wx → (wx.cell? ⟨p, 0, none⟩ = some (.int .i64 a.k) ∧ wx.cell? ⟨p, 1, none⟩ = some (.int .i64 a.i) ∧ wx.cell? ⟨p, 2, none⟩ = some (.int .u64 a.b) ∧ wx.cell? ⟨p, 3, none⟩ = some (.string ⟨a.t.toArray⟩) ∧ wx.cell? ⟨p, 4, none⟩ = some (.slice la na ca)) ∧ (wx.cell? ⟨q, 0, none⟩ = some (.int .i64 b.k) ∧ wx.cell? ⟨q, 1, none⟩ = some (.int .i64 b.i) ∧ wx.cell? ⟨q, 2, none⟩ = some (.int .u64 b.b) ∧ wx.cell? ⟨q, 3, none⟩ = some (.string ⟨b.t.toArray⟩) ∧ wx.cell? ⟨q, 4, none⟩ = some (.slice lb nb cb)) from fun wx hx => ⟨⟨cellAt hx x0, cellAt hx x1, cellAt hx x2, cellAt hx x3, cellAt hx x4⟩, ⟨cellAt hx y0, cellAt hx y1, cellAt hx y2, cellAt hx y3, cellAt hx y4⟩⟩)
  have HW0 := Lib.hid ((Below.refl w3.heap.size w3).drew)
  clear x0 x1 x2 x3 x4 y0 y1 y2 y3 y4
  go_cut [5, 6] from 20 to 23 (fun s5 s6 wx => ∃ p5 p6 l5 n5 c5 l6 n6 c6, s5 = .pointer (some ⟨p5, 0, none⟩) ∧ s6 = .pointer (some ⟨p6, 0, none⟩) ∧ RelE w3 a b p5 p6 l5 n5 c5 l6 n6 c6 wx)
  case first =>
    refine wp_region_L (S := fun wx : World => (wx.cell? ⟨p, 0, none⟩ = some (.int .i64 a.k) ∧ wx.cell? ⟨p, 1, none⟩ = some (.int .i64 a.i) ∧ wx.cell? ⟨p, 2, none⟩ = some (.int .u64 a.b) ∧ wx.cell? ⟨p, 3, none⟩ = some (.string ⟨a.t.toArray⟩) ∧ wx.cell? ⟨p, 4, none⟩ = some (.slice la na ca)) ∧ (wx.cell? ⟨q, 0, none⟩ = some (.int .i64 b.k) ∧ wx.cell? ⟨q, 1, none⟩ = some (.int .i64 b.i) ∧ wx.cell? ⟨q, 2, none⟩ = some (.int .u64 b.b) ∧ wx.cell? ⟨q, 3, none⟩ = some (.string ⟨b.t.toArray⟩) ∧ wx.cell? ⟨q, 4, none⟩ = some (.slice lb nb cb))) (by kernel_rfl) ?_ (fun hHeld => ?_)
    · exact HKEEP.out _ HW0.out
    refine takeL (i := 0) 1 (v := ?va0) rfl (by kernel_rfl) (by kernel_rfl) (by kernel_rfl) (by kernel_rfl) (by kernel_rfl) (fun _ _ _ h => h) (Or.inl ⟨by rfl, ?hy0⟩) (by assumption) ?rest0
    case hy0 => (intro w9 hSw; (try dsimp only at hSw); go_simp; try with_reducible rfl)
    try simp only [Act.put, List.setIfInBounds_toArray, List.set_cons_zero, List.set_cons_succ]
    refine takeL (i := 2) 3 (v := ?va2) rfl (by kernel_rfl) (by kernel_rfl) (by kernel_rfl) (by kernel_rfl) (by kernel_rfl) (fun _ _ _ h => h) (Or.inl ⟨by rfl, ?hy2⟩) (by assumption) ?rest2
    case hy2 => (intro w9 hSw; (try dsimp only at hSw); go_simp; try with_reducible rfl)
    try simp only [Act.put, List.setIfInBounds_toArray, List.set_cons_zero, List.set_cons_succ]
    refine someL (is := [1, 4, 5]) (by kernel_rfl) (by simp) (fun i hi => ?_)
    simp only [List.mem_cons, List.mem_nil_iff, or_false] at hi
    rcases hi with rfl | rfl | rfl
    · refine ⟨_, rfl, fun K hK => ?_⟩
      (go_simp; go_at_call 27; (with_reducible refine (HC5.out _ HW0.out).mono ?_); rintro ex1 x1 ⟨l5, n5, c5, rfl, hfx1, hbx1⟩)
      have HWx1 := Lib.hid (HW0.out.trans (hbx1.mono HW0.out.size))
      have G5x1 := Lib.hid (Got.of0 hfx1 HW0.out.size)
      clear hfx1 hbx1
      refine hK.out _ _ (HKEEP.out _ HWx1.out) (fun hHeldx1 => ?_)
      clear hK K
      try simp only [Act.put, List.setIfInBounds_toArray, List.set_cons_zero, List.set_cons_succ]
      refine someL (is := [3, 4, 5]) (by kernel_rfl) (by simp) (fun i hi => ?_)
      simp only [List.mem_cons, List.mem_nil_iff, or_false] at hi
      rcases hi with rfl | rfl | rfl
      · refine ⟨_, rfl, fun K hK => ?_⟩
        (go_simp; go_at_call 27; (with_reducible refine (HC6.out _ HWx1.out).mono ?_); rintro ex2 x2 ⟨l6, n6, c6, rfl, hfx2, hbx2⟩)
        have HWx2 := Lib.hid (HWx1.out.trans (hbx2.mono HWx1.out.size))
        have G6x2 := Lib.hid (Got.of0 hfx2 HWx1.out.size)
        have G5x2 := Lib.hid (G5x1.out.below hbx2)
        clear hfx2 hbx2
        refine hK.out _ _ (HKEEP.out _ HWx2.out) (fun hHeldx2 => ?_)
        clear hK K
        try simp only [Act.put, List.setIfInBounds_toArray, List.set_cons_zero, List.set_cons_succ]
        refine someL (is := [4, 5]) (by kernel_rfl) (by simp) (fun i hi => ?_)
        simp only [List.mem_cons, List.mem_nil_iff, or_false] at hi
        rcases hi with rfl | rfl
        · refine ⟨_, rfl, fun K hK => ?_⟩
          refine step_alloc25 rfl rfl ?_
          intro p5 x3 hpx3 hPx3 hbx3 hsx3
          have HWx3 := Lib.hid (HWx2.out.trans (hbx3.mono HWx2.out.size))
          have P5x3 := Lib.hid hPx3
          have Q5 := Lib.hid (show w3.heap.size ≤ p5 from by rw [hpx3]; exact HWx2.out.size)
          have G5x3 := Lib.hid ((G5x2.out.more hpx3).below hbx3)
          have G6x3 := Lib.hid ((G6x2.out.more hpx3).below hbx3)
          have LPx3 := Lib.hid (show p5 < x3.heap.size from by omega)
          clear hpx3 hPx3 hbx3 hsx3
          refine hK.out _ _ (HKEEP.out _ HWx3.out) (fun hHeldx3 => ?_)
          clear hK K
          try simp only [Act.put, List.setIfInBounds_toArray, List.set_cons_zero, List.set_cons_succ]
          refine oneL (i := 5) (by kernel_rfl) rfl (fun K hK => ?_)
          refine step_alloc25 rfl rfl ?_
          intro p6 x4 hpx4 hPx4 hbx4 hsx4
          have HWx4 := Lib.hid (HWx3.out.trans (hbx4.mono HWx3.out.size))
          have P6x4 := Lib.hid hPx4
          have Q6 := Lib.hid (show w3.heap.size ≤ p6 from by rw [hpx4]; exact HWx3.out.size)
          have G5x4 := Lib.hid ((G5x3.out.more hpx4).below hbx4)
          have G6x4 := Lib.hid ((G6x3.out.more hpx4).below hbx4)
          have P5x4 := Lib.hid (P5x3.out.below hbx4)
          have NE := Lib.hid (show p5 ≠ p6 from by have := LPx3.out; omega)
          have LPx4 := Lib.hid (show p6 < x4.heap.size ∧ p5 < x4.heap.size from by have := LPx3.out; omega)
          clear hpx4 hPx4 hbx4 hsx4
          refine hK.out _ _ (HKEEP.out _ HWx4.out) (fun hHeldx4 => ?_)
          clear hK K
          try simp only [Act.put, List.setIfInBounds_toArray, List.set_cons_zero, List.set_cons_succ]
          refine oneL (i := 6) (by kernel_rfl) rfl (fun K hK => ?_)
          refine step_store25 (k := a.k) (i := a.i) (b := a.b) (t := ⟨a.t.toArray⟩) (l := l5) (n := n5) (c := c5) (by rfl) 5 21 (by rfl) (by go_simp) (by go_simp) P5x4.out (by rfl) ?_
          obtain ⟨w7, h7⟩ : ∃ w7, w7 = st5 x4 p5 (.int .i64 a.k) (.int .i64 a.i) (.int .u64 a.b) (.string ⟨a.t.toArray⟩) (.slice l5 n5 c5) := ⟨_, rfl⟩
          have P6s := Lib.hid (show Blk w7 p6 (V5 0 0 0 ⟨#[]⟩ none 0 0) from by rw [h7]; exact P6x4.out.keep (st5_kept _ _ _ _ _) (fun e => NE.out (Eq.symm e)))
          have hS9 := HKEEP.out w7 (by rw [h7]; exact stB HWx4.out Q5.out)
          rw [← h7]
          have HE7 := Lib.hid h7
          clear h7
          refine hK.out _ _ hS9 (fun hHeld9 => ?_)
          clear hK K hS9
          try simp only [Act.put, List.setIfInBounds_toArray, List.set_cons_zero, List.set_cons_succ]
          refine lastL (i := 7) (by kernel_rfl) rfl (by kernel_rfl) (by kernel_rfl) (fun K hK => ?_)
          refine step_store25 (k := b.k) (i := b.i) (b := b.b) (t := ⟨b.t.toArray⟩) (l := l6) (n := n6) (c := c6) (by rfl) 6 23 (by rfl) (by go_simp) (by go_simp) P6s.out (by rfl) ?_
          refine hK.out _ _ ?_
          clear hK K hHeld9
          go_wp2_with fail
          go_meet
          case rel => exact ⟨p5, p6, l5, n5, c5, l6, n6, c6, rfl, rfl, by rw [HE7.out]; exact relE HWx4.out P5x4.out P6x4.out Q5.out Q6.out NE.out ((G5x4.out.st (by simp) _ _ _ _ _).st (by simp) _ _ _ _ _) ((G6x4.out.st (by simp) _ _ _ _ _).st (by simp) _ _ _ _ _)⟩
        · refine ⟨_, rfl, fun K hK => ?_⟩
          refine step_alloc25 rfl rfl ?_
          intro p6 x5 hpx5 hPx5 hbx5 hsx5
          have HWx5 := Lib.hid (HWx2.out.trans (hbx5.mono HWx2.out.size))
          have P6x5 := Lib.hid hPx5
          have Q6 := Lib.hid (show w3.heap.size ≤ p6 from by rw [hpx5]; exact HWx2.out.size)
          have G5x5 := Lib.hid ((G5x2.out.more hpx5).below hbx5)
          have G6x5 := Lib.hid ((G6x2.out.more hpx5).below hbx5)
          have LPx5 := Lib.hid (show p6 < x5.heap.size from by omega)
          clear hpx5 hPx5 hbx5 hsx5
          refine hK.out _ _ (HKEEP.out _ HWx5.out) (fun hHeldx5 => ?_)
          clear hK K
          try simp only [Act.put, List.setIfInBounds_toArray, List.set_cons_zero, List.set_cons_succ]
          refine oneL (i := 4) (by kernel_rfl) rfl (fun K hK => ?_)
          refine step_alloc25 rfl rfl ?_
          intro p5 x6 hpx6 hPx6 hbx6 hsx6
          have HWx6 := Lib.hid (HWx5.out.trans (hbx6.mono HWx5.out.size))
          have P5x6 := Lib.hid hPx6
          have Q5 := Lib.hid (show w3.heap.size ≤ p5 from by rw [hpx6]; exact HWx5.out.size)
          have G5x6 := Lib.hid ((G5x5.out.more hpx6).below hbx6)
          have G6x6 := Lib.hid ((G6x5.out.more hpx6).below hbx6)
          have P6x6 := Lib.hid (P6x5.out.below hbx6)
          have NE := Lib.hid (show p5 ≠ p6 from by have := LPx5.out; omega)
          have LPx6 := Lib.hid (show p5 < x6.heap.size ∧ p6 < x6.heap.size from by have := LPx5.out; omega)
          clear hpx6 hPx6 hbx6 hsx6
          refine hK.out _ _ (HKEEP.out _ HWx6.out) (fun hHeldx6 => ?_)
          clear hK K
          try simp only [Act.put, List.setIfInBounds_toArray, List.set_cons_zero, List.set_cons_succ]
          refine oneL (i := 6) (by kernel_rfl) rfl (fun K hK => ?_)
          refine step_store25 (k := a.k) (i := a.i) (b := a.b) (t := ⟨a.t.toArray⟩) (l := l5) (n := n5) (c := c5) (by rfl) 5 21 (by rfl) (by go_simp) (by go_simp) P5x6.out (by rfl) ?_
          obtain ⟨w7, h7⟩ : ∃ w7, w7 = st5 x6 p5 (.int .i64 a.k) (.int .i64 a.i) (.int .u64 a.b) (.string ⟨a.t.toArray⟩) (.slice l5 n5 c5) := ⟨_, rfl⟩
          have P6s := Lib.hid (show Blk w7 p6 (V5 0 0 0 ⟨#[]⟩ none 0 0) from by rw [h7]; exact P6x6.out.keep (st5_kept _ _ _ _ _) (fun e => NE.out (Eq.symm e)))
          have hS9 := HKEEP.out w7 (by rw [h7]; exact stB HWx6.out Q5.out)
          rw [← h7]
          have HE7 := Lib.hid h7
          clear h7
          refine hK.out _ _ hS9 (fun hHeld9 => ?_)
          clear hK K hS9
          try simp only [Act.put, List.setIfInBounds_toArray, List.set_cons_zero, List.set_cons_succ]
          refine lastL (i := 7) (by kernel_rfl) rfl (by kernel_rfl) (by kernel_rfl) (fun K hK => ?_)
          refine step_store25 (k := b.k) (i := b.i) (b := b.b) (t := ⟨b.t.toArray⟩) (l := l6) (n := n6) (c := c6) (by rfl) 6 23 (by rfl) (by go_simp) (by go_simp) P6s.out (by rfl) ?_
          refine hK.out _ _ ?_
          clear hK K hHeld9
          go_wp2_with fail
          go_meet
          case rel => exact ⟨p5, p6, l5, n5, c5, l6, n6, c6, rfl, rfl, by rw [HE7.out]; exact relE HWx6.out P5x6.out P6x6.out Q5.out Q6.out NE.out ((G5x6.out.st (by simp) _ _ _ _ _).st (by simp) _ _ _ _ _) ((G6x6.out.st (by simp) _ _ _ _ _).st (by simp) _ _ _ _ _)⟩
      · refine ⟨_, rfl, fun K hK => ?_⟩
        refine step_alloc25 rfl rfl ?_
        intro p5 x7 hpx7 hPx7 hbx7 hsx7
        have HWx7 := Lib.hid (HWx1.out.trans (hbx7.mono HWx1.out.size))
        have P5x7 := Lib.hid hPx7
        have Q5 := Lib.hid (show w3.heap.size ≤ p5 from by rw [hpx7]; exact HWx1.out.size)
        have G5x7 := Lib.hid ((G5x1.out.more hpx7).below hbx7)
        have LPx7 := Lib.hid (show p5 < x7.heap.size from by omega)
        clear hpx7 hPx7 hbx7 hsx7
        refine hK.out _ _ (HKEEP.out _ HWx7.out) (fun hHeldx7 => ?_)
        clear hK K
        try simp only [Act.put, List.setIfInBounds_toArray, List.set_cons_zero, List.set_cons_succ]
        refine someL (is := [3, 5]) (by kernel_rfl) (by simp) (fun i hi => ?_)
        simp only [List.mem_cons, List.mem_nil_iff, or_false] at hi
        rcases hi with rfl | rfl
        · refine ⟨_, rfl, fun K hK => ?_⟩
          (go_simp; go_at_call 27; (with_reducible refine (HC6.out _ HWx7.out).mono ?_); rintro ex8 x8 ⟨l6, n6, c6, rfl, hfx8, hbx8⟩)
          have HWx8 := Lib.hid (HWx7.out.trans (hbx8.mono HWx7.out.size))
          have G6x8 := Lib.hid (Got.of1 hfx8 HWx7.out.size LPx7.out)
          have G5x8 := Lib.hid (G5x7.out.below hbx8)
          have P5x8 := Lib.hid (P5x7.out.below hbx8)
          have LPx8 := Lib.hid (Nat.lt_of_lt_of_le LPx7.out hbx8.size)
          clear hfx8 hbx8
          refine hK.out _ _ (HKEEP.out _ HWx8.out) (fun hHeldx8 => ?_)
          clear hK K
          try simp only [Act.put, List.setIfInBounds_toArray, List.set_cons_zero, List.set_cons_succ]
          refine oneL (i := 5) (by kernel_rfl) rfl (fun K hK => ?_)
          refine step_alloc25 rfl rfl ?_
          intro p6 x9 hpx9 hPx9 hbx9 hsx9
          have HWx9 := Lib.hid (HWx8.out.trans (hbx9.mono HWx8.out.size))
          have P6x9 := Lib.hid hPx9
          have Q6 := Lib.hid (show w3.heap.size ≤ p6 from by rw [hpx9]; exact HWx8.out.size)
          have G5x9 := Lib.hid ((G5x8.out.more hpx9).below hbx9)
          have G6x9 := Lib.hid ((G6x8.out.more hpx9).below hbx9)
          have P5x9 := Lib.hid (P5x8.out.below hbx9)
          have NE := Lib.hid (show p5 ≠ p6 from by have := LPx8.out; omega)
          have LPx9 := Lib.hid (show p6 < x9.heap.size ∧ p5 < x9.heap.size from by have := LPx8.out; omega)
          clear hpx9 hPx9 hbx9 hsx9
          refine hK.out _ _ (HKEEP.out _ HWx9.out) (fun hHeldx9 => ?_)
          clear hK K
          try simp only [Act.put, List.setIfInBounds_toArray, List.set_cons_zero, List.set_cons_succ]
          refine oneL (i := 6) (by kernel_rfl) rfl (fun K hK => ?_)
          refine step_store25 (k := a.k) (i := a.i) (b := a.b) (t := ⟨a.t.toArray⟩) (l := l5) (n := n5) (c := c5) (by rfl) 5 21 (by rfl) (by go_simp) (by go_simp) P5x9.out (by rfl) ?_
          obtain ⟨w7, h7⟩ : ∃ w7, w7 = st5 x9 p5 (.int .i64 a.k) (.int .i64 a.i) (.int .u64 a.b) (.string ⟨a.t.toArray⟩) (.slice l5 n5 c5) := ⟨_, rfl⟩
          have P6s := Lib.hid (show Blk w7 p6 (V5 0 0 0 ⟨#[]⟩ none 0 0) from by rw [h7]; exact P6x9.out.keep (st5_kept _ _ _ _ _) (fun e => NE.out (Eq.symm e)))
          have hS9 := HKEEP.out w7 (by rw [h7]; exact stB HWx9.out Q5.out)
          rw [← h7]
          have HE7 := Lib.hid h7
          clear h7
          refine hK.out _ _ hS9 (fun hHeld9 => ?_)
          clear hK K hS9
          try simp only [Act.put, List.setIfInBounds_toArray, List.set_cons_zero, List.set_cons_succ]
          refine lastL (i := 7) (by kernel_rfl) rfl (by kernel_rfl) (by kernel_rfl) (fun K hK => ?_)
          refine step_store25 (k := b.k) (i := b.i) (b := b.b) (t := ⟨b.t.toArray⟩) (l := l6) (n := n6) (c := c6) (by rfl) 6 23 (by rfl) (by go_simp) (by go_simp) P6s.out (by rfl) ?_
          refine hK.out _ _ ?_
          clear hK K hHeld9
          go_wp2_with fail
          go_meet
          case rel => exact ⟨p5, p6, l5, n5, c5, l6, n6, c6, rfl, rfl, by rw [HE7.out]; exact relE HWx9.out P5x9.out P6x9.out Q5.out Q6.out NE.out ((G5x9.out.st (by simp) _ _ _ _ _).st (by simp) _ _ _ _ _) ((G6x9.out.st (by simp) _ _ _ _ _).st (by simp) _ _ _ _ _)⟩
        · refine ⟨_, rfl, fun K hK => ?_⟩
          refine step_alloc25 rfl rfl ?_
          intro p6 x10 hpx10 hPx10 hbx10 hsx10
          have HWx10 := Lib.hid (HWx7.out.trans (hbx10.mono HWx7.out.size))
          have P6x10 := Lib.hid hPx10
          have Q6 := Lib.hid (show w3.heap.size ≤ p6 from by rw [hpx10]; exact HWx7.out.size)
          have G5x10 := Lib.hid ((G5x7.out.more hpx10).below hbx10)
          have P5x10 := Lib.hid (P5x7.out.below hbx10)
          have NE := Lib.hid (show p5 ≠ p6 from by have := LPx7.out; omega)
          have LPx10 := Lib.hid (show p6 < x10.heap.size ∧ p5 < x10.heap.size from by have := LPx7.out; omega)
          clear hpx10 hPx10 hbx10 hsx10
          refine hK.out _ _ (HKEEP.out _ HWx10.out) (fun hHeldx10 => ?_)
          clear hK K
          try simp only [Act.put, List.setIfInBounds_toArray, List.set_cons_zero, List.set_cons_succ]
          refine oneL (i := 3) (by kernel_rfl) rfl (fun K hK => ?_)
          (go_simp; go_at_call 27; (with_reducible refine (HC6.out _ HWx10.out).mono ?_); rintro ex11 x11 ⟨l6, n6, c6, rfl, hfx11, hbx11⟩)
          have HWx11 := Lib.hid (HWx10.out.trans (hbx11.mono HWx10.out.size))
          have G6x11 := Lib.hid (Got.of2 hfx11 HWx10.out.size LPx10.out)
          have G5x11 := Lib.hid (G5x10.out.below hbx11)
          have P6x11 := Lib.hid (P6x10.out.below hbx11)
          have P5x11 := Lib.hid (P5x10.out.below hbx11)
          have LPx11 := Lib.hid ((⟨Nat.lt_of_lt_of_le LPx10.out.1 hbx11.size, Nat.lt_of_lt_of_le LPx10.out.2 hbx11.size⟩ : p6 < x11.heap.size ∧ p5 < x11.heap.size))
          clear hfx11 hbx11
          refine hK.out _ _ (HKEEP.out _ HWx11.out) (fun hHeldx11 => ?_)
          clear hK K
          try simp only [Act.put, List.setIfInBounds_toArray, List.set_cons_zero, List.set_cons_succ]
          refine oneL (i := 6) (by kernel_rfl) rfl (fun K hK => ?_)
          refine step_store25 (k := a.k) (i := a.i) (b := a.b) (t := ⟨a.t.toArray⟩) (l := l5) (n := n5) (c := c5) (by rfl) 5 21 (by rfl) (by go_simp) (by go_simp) P5x11.out (by rfl) ?_
          obtain ⟨w7, h7⟩ : ∃ w7, w7 = st5 x11 p5 (.int .i64 a.k) (.int .i64 a.i) (.int .u64 a.b) (.string ⟨a.t.toArray⟩) (.slice l5 n5 c5) := ⟨_, rfl⟩
          have P6s := Lib.hid (show Blk w7 p6 (V5 0 0 0 ⟨#[]⟩ none 0 0) from by rw [h7]; exact P6x11.out.keep (st5_kept _ _ _ _ _) (fun e => NE.out (Eq.symm e)))
          have hS9 := HKEEP.out w7 (by rw [h7]; exact stB HWx11.out Q5.out)
          rw [← h7]
          have HE7 := Lib.hid h7
          clear h7
          refine hK.out _ _ hS9 (fun hHeld9 => ?_)
          clear hK K hS9
          try simp only [Act.put, List.setIfInBounds_toArray, List.set_cons_zero, List.set_cons_succ]
          refine lastL (i := 7) (by kernel_rfl) rfl (by kernel_rfl) (by kernel_rfl) (fun K hK => ?_)
          refine step_store25 (k := b.k) (i := b.i) (b := b.b) (t := ⟨b.t.toArray⟩) (l := l6) (n := n6) (c := c6) (by rfl) 6 23 (by rfl) (by go_simp) (by go_simp) P6s.out (by rfl) ?_
          refine hK.out _ _ ?_
          clear hK K hHeld9
          go_wp2_with fail
          go_meet
          case rel => exact ⟨p5, p6, l5, n5, c5, l6, n6, c6, rfl, rfl, by rw [HE7.out]; exact relE HWx11.out P5x11.out P6x11.out Q5.out Q6.out NE.out ((G5x11.out.st (by simp) _ _ _ _ _).st (by simp) _ _ _ _ _) ((G6x11.out.st (by simp) _ _ _ _ _).st (by simp) _ _ _ _ _)⟩
      · refine ⟨_, rfl, fun K hK => ?_⟩
        refine step_alloc25 rfl rfl ?_
        intro p6 x12 hpx12 hPx12 hbx12 hsx12
        have HWx12 := Lib.hid (HWx1.out.trans (hbx12.mono HWx1.out.size))
        have P6x12 := Lib.hid hPx12
        have Q6 := Lib.hid (show w3.heap.size ≤ p6 from by rw [hpx12]; exact HWx1.out.size)
        have G5x12 := Lib.hid ((G5x1.out.more hpx12).below hbx12)
        have LPx12 := Lib.hid (show p6 < x12.heap.size from by omega)
        clear hpx12 hPx12 hbx12 hsx12
        refine hK.out _ _ (HKEEP.out _ HWx12.out) (fun hHeldx12 => ?_)
        clear hK K
        try simp only [Act.put, List.setIfInBounds_toArray, List.set_cons_zero, List.set_cons_succ]
        refine someL (is := [3, 4]) (by kernel_rfl) (by simp) (fun i hi => ?_)
        simp only [List.mem_cons, List.mem_nil_iff, or_false] at hi
        rcases hi with rfl | rfl
        · refine ⟨_, rfl, fun K hK => ?_⟩
          (go_simp; go_at_call 27; (with_reducible refine (HC6.out _ HWx12.out).mono ?_); rintro ex13 x13 ⟨l6, n6, c6, rfl, hfx13, hbx13⟩)
          have HWx13 := Lib.hid (HWx12.out.trans (hbx13.mono HWx12.out.size))
          have G6x13 := Lib.hid (Got.of1 hfx13 HWx12.out.size LPx12.out)
          have G5x13 := Lib.hid (G5x12.out.below hbx13)
          have P6x13 := Lib.hid (P6x12.out.below hbx13)
          have LPx13 := Lib.hid (Nat.lt_of_lt_of_le LPx12.out hbx13.size)
          clear hfx13 hbx13
          refine hK.out _ _ (HKEEP.out _ HWx13.out) (fun hHeldx13 => ?_)
          clear hK K
          try simp only [Act.put, List.setIfInBounds_toArray, List.set_cons_zero, List.set_cons_succ]
          refine oneL (i := 4) (by kernel_rfl) rfl (fun K hK => ?_)
          refine step_alloc25 rfl rfl ?_
          intro p5 x14 hpx14 hPx14 hbx14 hsx14
          have HWx14 := Lib.hid (HWx13.out.trans (hbx14.mono HWx13.out.size))
          have P5x14 := Lib.hid hPx14
          have Q5 := Lib.hid (show w3.heap.size ≤ p5 from by rw [hpx14]; exact HWx13.out.size)
          have G5x14 := Lib.hid ((G5x13.out.more hpx14).below hbx14)
          have G6x14 := Lib.hid ((G6x13.out.more hpx14).below hbx14)
          have P6x14 := Lib.hid (P6x13.out.below hbx14)
          have NE := Lib.hid (show p5 ≠ p6 from by have := LPx13.out; omega)
          have LPx14 := Lib.hid (show p5 < x14.heap.size ∧ p6 < x14.heap.size from by have := LPx13.out; omega)
          clear hpx14 hPx14 hbx14 hsx14
          refine hK.out _ _ (HKEEP.out _ HWx14.out) (fun hHeldx14 => ?_)
          clear hK K
          try simp only [Act.put, List.setIfInBounds_toArray, List.set_cons_zero, List.set_cons_succ]
          refine oneL (i := 6) (by kernel_rfl) rfl (fun K hK => ?_)
          refine step_store25 (k := a.k) (i := a.i) (b := a.b) (t := ⟨a.t.toArray⟩) (l := l5) (n := n5) (c := c5) (by rfl) 5 21 (by rfl) (by go_simp) (by go_simp) P5x14.out (by rfl) ?_
          obtain ⟨w7, h7⟩ : ∃ w7, w7 = st5 x14 p5 (.int .i64 a.k) (.int .i64 a.i) (.int .u64 a.b) (.string ⟨a.t.toArray⟩) (.slice l5 n5 c5) := ⟨_, rfl⟩
          have P6s := Lib.hid (show Blk w7 p6 (V5 0 0 0 ⟨#[]⟩ none 0 0) from by rw [h7]; exact P6x14.out.keep (st5_kept _ _ _ _ _) (fun e => NE.out (Eq.symm e)))
          have hS9 := HKEEP.out w7 (by rw [h7]; exact stB HWx14.out Q5.out)
          rw [← h7]
          have HE7 := Lib.hid h7
          clear h7
          refine hK.out _ _ hS9 (fun hHeld9 => ?_)
          clear hK K hS9
          try simp only [Act.put, List.setIfInBounds_toArray, List.set_cons_zero, List.set_cons_succ]
          refine lastL (i := 7) (by kernel_rfl) rfl (by kernel_rfl) (by kernel_rfl) (fun K hK => ?_)
          refine step_store25 (k := b.k) (i := b.i) (b := b.b) (t := ⟨b.t.toArray⟩) (l := l6) (n := n6) (c := c6) (by rfl) 6 23 (by rfl) (by go_simp) (by go_simp) P6s.out (by rfl) ?_
          refine hK.out _ _ ?_
          clear hK K hHeld9
          go_wp2_with fail
          go_meet
          case rel => exact ⟨p5, p6, l5, n5, c5, l6, n6, c6, rfl, rfl, by rw [HE7.out]; exact relE HWx14.out P5x14.out P6x14.out Q5.out Q6.out NE.out ((G5x14.out.st (by simp) _ _ _ _ _).st (by simp) _ _ _ _ _) ((G6x14.out.st (by simp) _ _ _ _ _).st (by simp) _ _ _ _ _)⟩
        · refine ⟨_, rfl, fun K hK => ?_⟩
          refine step_alloc25 rfl rfl ?_
          intro p5 x15 hpx15 hPx15 hbx15 hsx15
          have HWx15 := Lib.hid (HWx12.out.trans (hbx15.mono HWx12.out.size))
          have P5x15 := Lib.hid hPx15
          have Q5 := Lib.hid (show w3.heap.size ≤ p5 from by rw [hpx15]; exact HWx12.out.size)
          have G5x15 := Lib.hid ((G5x12.out.more hpx15).below hbx15)
          have P6x15 := Lib.hid (P6x12.out.below hbx15)
          have NE := Lib.hid (show p5 ≠ p6 from by have := LPx12.out; omega)
          have LPx15 := Lib.hid (show p5 < x15.heap.size ∧ p6 < x15.heap.size from by have := LPx12.out; omega)
          clear hpx15 hPx15 hbx15 hsx15
          refine hK.out _ _ (HKEEP.out _ HWx15.out) (fun hHeldx15 => ?_)
          clear hK K
          try simp only [Act.put, List.setIfInBounds_toArray, List.set_cons_zero, List.set_cons_succ]
          refine oneL (i := 3) (by kernel_rfl) rfl (fun K hK => ?_)
          (go_simp; go_at_call 27; (with_reducible refine (HC6.out _ HWx15.out).mono ?_); rintro ex16 x16 ⟨l6, n6, c6, rfl, hfx16, hbx16⟩)
          have HWx16 := Lib.hid (HWx15.out.trans (hbx16.mono HWx15.out.size))
          have G6x16 := Lib.hid (Got.of2 hfx16 HWx15.out.size LPx15.out)
          have G5x16 := Lib.hid (G5x15.out.below hbx16)
          have P5x16 := Lib.hid (P5x15.out.below hbx16)
          have P6x16 := Lib.hid (P6x15.out.below hbx16)
          have LPx16 := Lib.hid ((⟨Nat.lt_of_lt_of_le LPx15.out.1 hbx16.size, Nat.lt_of_lt_of_le LPx15.out.2 hbx16.size⟩ : p5 < x16.heap.size ∧ p6 < x16.heap.size))
          clear hfx16 hbx16
          refine hK.out _ _ (HKEEP.out _ HWx16.out) (fun hHeldx16 => ?_)
          clear hK K
          try simp only [Act.put, List.setIfInBounds_toArray, List.set_cons_zero, List.set_cons_succ]
          refine oneL (i := 6) (by kernel_rfl) rfl (fun K hK => ?_)
          refine step_store25 (k := a.k) (i := a.i) (b := a.b) (t := ⟨a.t.toArray⟩) (l := l5) (n := n5) (c := c5) (by rfl) 5 21 (by rfl) (by go_simp) (by go_simp) P5x16.out (by rfl) ?_
          obtain ⟨w7, h7⟩ : ∃ w7, w7 = st5 x16 p5 (.int .i64 a.k) (.int .i64 a.i) (.int .u64 a.b) (.string ⟨a.t.toArray⟩) (.slice l5 n5 c5) := ⟨_, rfl⟩
          have P6s := Lib.hid (show Blk w7 p6 (V5 0 0 0 ⟨#[]⟩ none 0 0) from by rw [h7]; exact P6x16.out.keep (st5_kept _ _ _ _ _) (fun e => NE.out (Eq.symm e)))
          have hS9 := HKEEP.out w7 (by rw [h7]; exact stB HWx16.out Q5.out)
          rw [← h7]
          have HE7 := Lib.hid h7
          clear h7
          refine hK.out _ _ hS9 (fun hHeld9 => ?_)
          clear hK K hS9
          try simp only [Act.put, List.setIfInBounds_toArray, List.set_cons_zero, List.set_cons_succ]
          refine lastL (i := 7) (by kernel_rfl) rfl (by kernel_rfl) (by kernel_rfl) (fun K hK => ?_)
          refine step_store25 (k := b.k) (i := b.i) (b := b.b) (t := ⟨b.t.toArray⟩) (l := l6) (n := n6) (c := c6) (by rfl) 6 23 (by rfl) (by go_simp) (by go_simp) P6s.out (by rfl) ?_
          refine hK.out _ _ ?_
          clear hK K hHeld9
          go_wp2_with fail
          go_meet
          case rel => exact ⟨p5, p6, l5, n5, c5, l6, n6, c6, rfl, rfl, by rw [HE7.out]; exact relE HWx16.out P5x16.out P6x16.out Q5.out Q6.out NE.out ((G5x16.out.st (by simp) _ _ _ _ _).st (by simp) _ _ _ _ _) ((G6x16.out.st (by simp) _ _ _ _ _).st (by simp) _ _ _ _ _)⟩
    · refine ⟨_, rfl, fun K hK => ?_⟩
      refine step_alloc25 rfl rfl ?_
      intro p5 x17 hpx17 hPx17 hbx17 hsx17
      have HWx17 := Lib.hid (HW0.out.trans (hbx17.mono HW0.out.size))
      have P5x17 := Lib.hid hPx17
      have Q5 := Lib.hid (show w3.heap.size ≤ p5 from by rw [hpx17]; exact HW0.out.size)
      have LPx17 := Lib.hid (show p5 < x17.heap.size from by omega)
      clear hpx17 hPx17 hbx17 hsx17
      refine hK.out _ _ (HKEEP.out _ HWx17.out) (fun hHeldx17 => ?_)
      clear hK K
      try simp only [Act.put, List.setIfInBounds_toArray, List.set_cons_zero, List.set_cons_succ]
      refine someL (is := [1, 5]) (by kernel_rfl) (by simp) (fun i hi => ?_)
      simp only [List.mem_cons, List.mem_nil_iff, or_false] at hi
      rcases hi with rfl | rfl
      · refine ⟨_, rfl, fun K hK => ?_⟩
        (go_simp; go_at_call 27; (with_reducible refine (HC5.out _ HWx17.out).mono ?_); rintro ex18 x18 ⟨l5, n5, c5, rfl, hfx18, hbx18⟩)
        have HWx18 := Lib.hid (HWx17.out.trans (hbx18.mono HWx17.out.size))
        have G5x18 := Lib.hid (Got.of1 hfx18 HWx17.out.size LPx17.out)
        have P5x18 := Lib.hid (P5x17.out.below hbx18)
        have LPx18 := Lib.hid (Nat.lt_of_lt_of_le LPx17.out hbx18.size)
        clear hfx18 hbx18
        refine hK.out _ _ (HKEEP.out _ HWx18.out) (fun hHeldx18 => ?_)
        clear hK K
        try simp only [Act.put, List.setIfInBounds_toArray, List.set_cons_zero, List.set_cons_succ]
        refine someL (is := [3, 5]) (by kernel_rfl) (by simp) (fun i hi => ?_)
        simp only [List.mem_cons, List.mem_nil_iff, or_false] at hi
        rcases hi with rfl | rfl
        · refine ⟨_, rfl, fun K hK => ?_⟩
          (go_simp; go_at_call 27; (with_reducible refine (HC6.out _ HWx18.out).mono ?_); rintro ex19 x19 ⟨l6, n6, c6, rfl, hfx19, hbx19⟩)
          have HWx19 := Lib.hid (HWx18.out.trans (hbx19.mono HWx18.out.size))
          have G6x19 := Lib.hid (Got.of1 hfx19 HWx18.out.size LPx18.out)
          have G5x19 := Lib.hid (G5x18.out.below hbx19)
          have P5x19 := Lib.hid (P5x18.out.below hbx19)
          have LPx19 := Lib.hid (Nat.lt_of_lt_of_le LPx18.out hbx19.size)
          clear hfx19 hbx19
          refine hK.out _ _ (HKEEP.out _ HWx19.out) (fun hHeldx19 => ?_)
          clear hK K
          try simp only [Act.put, List.setIfInBounds_toArray, List.set_cons_zero, List.set_cons_succ]
          refine oneL (i := 5) (by kernel_rfl) rfl (fun K hK => ?_)
          refine step_alloc25 rfl rfl ?_
          intro p6 x20 hpx20 hPx20 hbx20 hsx20
          have HWx20 := Lib.hid (HWx19.out.trans (hbx20.mono HWx19.out.size))
          have P6x20 := Lib.hid hPx20
          have Q6 := Lib.hid (show w3.heap.size ≤ p6 from by rw [hpx20]; exact HWx19.out.size)
          have G5x20 := Lib.hid ((G5x19.out.more hpx20).below hbx20)
          have G6x20 := Lib.hid ((G6x19.out.more hpx20).below hbx20)
          have P5x20 := Lib.hid (P5x19.out.below hbx20)
          have NE := Lib.hid (show p5 ≠ p6 from by have := LPx19.out; omega)
          have LPx20 := Lib.hid (show p6 < x20.heap.size ∧ p5 < x20.heap.size from by have := LPx19.out; omega)
          clear hpx20 hPx20 hbx20 hsx20
          refine hK.out _ _ (HKEEP.out _ HWx20.out) (fun hHeldx20 => ?_)
          clear hK K
          try simp only [Act.put, List.setIfInBounds_toArray, List.set_cons_zero, List.set_cons_succ]
          refine oneL (i := 6) (by kernel_rfl) rfl (fun K hK => ?_)
          refine step_store25 (k := a.k) (i := a.i) (b := a.b) (t := ⟨a.t.toArray⟩) (l := l5) (n := n5) (c := c5) (by rfl) 5 21 (by rfl) (by go_simp) (by go_simp) P5x20.out (by rfl) ?_
          obtain ⟨w7, h7⟩ : ∃ w7, w7 = st5 x20 p5 (.int .i64 a.k) (.int .i64 a.i) (.int .u64 a.b) (.string ⟨a.t.toArray⟩) (.slice l5 n5 c5) := ⟨_, rfl⟩
          have P6s := Lib.hid (show Blk w7 p6 (V5 0 0 0 ⟨#[]⟩ none 0 0) from by rw [h7]; exact P6x20.out.keep (st5_kept _ _ _ _ _) (fun e => NE.out (Eq.symm e)))
          have hS9 := HKEEP.out w7 (by rw [h7]; exact stB HWx20.out Q5.out)
          rw [← h7]
          have HE7 := Lib.hid h7
          clear h7
          refine hK.out _ _ hS9 (fun hHeld9 => ?_)
          clear hK K hS9
          try simp only [Act.put, List.setIfInBounds_toArray, List.set_cons_zero, List.set_cons_succ]
          refine lastL (i := 7) (by kernel_rfl) rfl (by kernel_rfl) (by kernel_rfl) (fun K hK => ?_)
          refine step_store25 (k := b.k) (i := b.i) (b := b.b) (t := ⟨b.t.toArray⟩) (l := l6) (n := n6) (c := c6) (by rfl) 6 23 (by rfl) (by go_simp) (by go_simp) P6s.out (by rfl) ?_
          refine hK.out _ _ ?_
          clear hK K hHeld9
          go_wp2_with fail
          go_meet
          case rel => exact ⟨p5, p6, l5, n5, c5, l6, n6, c6, rfl, rfl, by rw [HE7.out]; exact relE HWx20.out P5x20.out P6x20.out Q5.out Q6.out NE.out ((G5x20.out.st (by simp) _ _ _ _ _).st (by simp) _ _ _ _ _) ((G6x20.out.st (by simp) _ _ _ _ _).st (by simp) _ _ _ _ _)⟩
        · refine ⟨_, rfl, fun K hK => ?_⟩
          refine step_alloc25 rfl rfl ?_
          intro p6 x21 hpx21 hPx21 hbx21 hsx21
          have HWx21 := Lib.hid (HWx18.out.trans (hbx21.mono HWx18.out.size))
          have P6x21 := Lib.hid hPx21
          have Q6 := Lib.hid (show w3.heap.size ≤ p6 from by rw [hpx21]; exact HWx18.out.size)
          have G5x21 := Lib.hid ((G5x18.out.more hpx21).below hbx21)
          have P5x21 := Lib.hid (P5x18.out.below hbx21)
          have NE := Lib.hid (show p5 ≠ p6 from by have := LPx18.out; omega)
          have LPx21 := Lib.hid (show p6 < x21.heap.size ∧ p5 < x21.heap.size from by have := LPx18.out; omega)
          clear hpx21 hPx21 hbx21 hsx21
          refine hK.out _ _ (HKEEP.out _ HWx21.out) (fun hHeldx21 => ?_)
          clear hK K
          try simp only [Act.put, List.setIfInBounds_toArray, List.set_cons_zero, List.set_cons_succ]
          refine oneL (i := 3) (by kernel_rfl) rfl (fun K hK => ?_)
          (go_simp; go_at_call 27; (with_reducible refine (HC6.out _ HWx21.out).mono ?_); rintro ex22 x22 ⟨l6, n6, c6, rfl, hfx22, hbx22⟩)
          have HWx22 := Lib.hid (HWx21.out.trans (hbx22.mono HWx21.out.size))
          have G6x22 := Lib.hid (Got.of2 hfx22 HWx21.out.size LPx21.out)
          have G5x22 := Lib.hid (G5x21.out.below hbx22)
          have P6x22 := Lib.hid (P6x21.out.below hbx22)
          have P5x22 := Lib.hid (P5x21.out.below hbx22)
          have LPx22 := Lib.hid ((⟨Nat.lt_of_lt_of_le LPx21.out.1 hbx22.size, Nat.lt_of_lt_of_le LPx21.out.2 hbx22.size⟩ : p6 < x22.heap.size ∧ p5 < x22.heap.size))
          clear hfx22 hbx22
          refine hK.out _ _ (HKEEP.out _ HWx22.out) (fun hHeldx22 => ?_)
          clear hK K
          try simp only [Act.put, List.setIfInBounds_toArray, List.set_cons_zero, List.set_cons_succ]
          refine oneL (i := 6) (by kernel_rfl) rfl (fun K hK => ?_)
          refine step_store25 (k := a.k) (i := a.i) (b := a.b) (t := ⟨a.t.toArray⟩) (l := l5) (n := n5) (c := c5) (by rfl) 5 21 (by rfl) (by go_simp) (by go_simp) P5x22.out (by rfl) ?_
          obtain ⟨w7, h7⟩ : ∃ w7, w7 = st5 x22 p5 (.int .i64 a.k) (.int .i64 a.i) (.int .u64 a.b) (.string ⟨a.t.toArray⟩) (.slice l5 n5 c5) := ⟨_, rfl⟩
          have P6s := Lib.hid (show Blk w7 p6 (V5 0 0 0 ⟨#[]⟩ none 0 0) from by rw [h7]; exact P6x22.out.keep (st5_kept _ _ _ _ _) (fun e => NE.out (Eq.symm e)))
          have hS9 := HKEEP.out w7 (by rw [h7]; exact stB HWx22.out Q5.out)
          rw [← h7]
          have HE7 := Lib.hid h7
          clear h7
          refine hK.out _ _ hS9 (fun hHeld9 => ?_)
          clear hK K hS9
          try simp only [Act.put, List.setIfInBounds_toArray, List.set_cons_zero, List.set_cons_succ]
          refine lastL (i := 7) (by kernel_rfl) rfl (by kernel_rfl) (by kernel_rfl) (fun K hK => ?_)
          refine step_store25 (k := b.k) (i := b.i) (b := b.b) (t := ⟨b.t.toArray⟩) (l := l6) (n := n6) (c := c6) (by rfl) 6 23 (by rfl) (by go_simp) (by go_simp) P6s.out (by rfl) ?_
          refine hK.out _ _ ?_
          clear hK K hHeld9
          go_wp2_with fail
          go_meet
          case rel => exact ⟨p5, p6, l5, n5, c5, l6, n6, c6, rfl, rfl, by rw [HE7.out]; exact relE HWx22.out P5x22.out P6x22.out Q5.out Q6.out NE.out ((G5x22.out.st (by simp) _ _ _ _ _).st (by simp) _ _ _ _ _) ((G6x22.out.st (by simp) _ _ _ _ _).st (by simp) _ _ _ _ _)⟩
      · refine ⟨_, rfl, fun K hK => ?_⟩
        refine step_alloc25 rfl rfl ?_
        intro p6 x23 hpx23 hPx23 hbx23 hsx23
        have HWx23 := Lib.hid (HWx17.out.trans (hbx23.mono HWx17.out.size))
        have P6x23 := Lib.hid hPx23
        have Q6 := Lib.hid (show w3.heap.size ≤ p6 from by rw [hpx23]; exact HWx17.out.size)
        have P5x23 := Lib.hid (P5x17.out.below hbx23)
        have NE := Lib.hid (show p5 ≠ p6 from by have := LPx17.out; omega)
        have LPx23 := Lib.hid (show p6 < x23.heap.size ∧ p5 < x23.heap.size from by have := LPx17.out; omega)
        clear hpx23 hPx23 hbx23 hsx23
        refine hK.out _ _ (HKEEP.out _ HWx23.out) (fun hHeldx23 => ?_)
        clear hK K
        try simp only [Act.put, List.setIfInBounds_toArray, List.set_cons_zero, List.set_cons_succ]
        refine oneL (i := 1) (by kernel_rfl) rfl (fun K hK => ?_)
        (go_simp; go_at_call 27; (with_reducible refine (HC5.out _ HWx23.out).mono ?_); rintro ex24 x24 ⟨l5, n5, c5, rfl, hfx24, hbx24⟩)
        have HWx24 := Lib.hid (HWx23.out.trans (hbx24.mono HWx23.out.size))
        have G5x24 := Lib.hid (Got.of2 hfx24 HWx23.out.size LPx23.out)
        have P6x24 := Lib.hid (P6x23.out.below hbx24)
        have P5x24 := Lib.hid (P5x23.out.below hbx24)
        have LPx24 := Lib.hid ((⟨Nat.lt_of_lt_of_le LPx23.out.1 hbx24.size, Nat.lt_of_lt_of_le LPx23.out.2 hbx24.size⟩ : p6 < x24.heap.size ∧ p5 < x24.heap.size))
        clear hfx24 hbx24
        refine hK.out _ _ (HKEEP.out _ HWx24.out) (fun hHeldx24 => ?_)
        clear hK K
        try simp only [Act.put, List.setIfInBounds_toArray, List.set_cons_zero, List.set_cons_succ]
        refine oneL (i := 3) (by kernel_rfl) rfl (fun K hK => ?_)
        (go_simp; go_at_call 27; (with_reducible refine (HC6.out _ HWx24.out).mono ?_); rintro ex25 x25 ⟨l6, n6, c6, rfl, hfx25, hbx25⟩)
        have HWx25 := Lib.hid (HWx24.out.trans (hbx25.mono HWx24.out.size))
        have G6x25 := Lib.hid (Got.of2 hfx25 HWx24.out.size LPx24.out)
        have G5x25 := Lib.hid (G5x24.out.below hbx25)
        have P6x25 := Lib.hid (P6x24.out.below hbx25)
        have P5x25 := Lib.hid (P5x24.out.below hbx25)
        have LPx25 := Lib.hid ((⟨Nat.lt_of_lt_of_le LPx24.out.1 hbx25.size, Nat.lt_of_lt_of_le LPx24.out.2 hbx25.size⟩ : p6 < x25.heap.size ∧ p5 < x25.heap.size))
        clear hfx25 hbx25
        refine hK.out _ _ (HKEEP.out _ HWx25.out) (fun hHeldx25 => ?_)
        clear hK K
        try simp only [Act.put, List.setIfInBounds_toArray, List.set_cons_zero, List.set_cons_succ]
        refine oneL (i := 6) (by kernel_rfl) rfl (fun K hK => ?_)
        refine step_store25 (k := a.k) (i := a.i) (b := a.b) (t := ⟨a.t.toArray⟩) (l := l5) (n := n5) (c := c5) (by rfl) 5 21 (by rfl) (by go_simp) (by go_simp) P5x25.out (by rfl) ?_
        obtain ⟨w7, h7⟩ : ∃ w7, w7 = st5 x25 p5 (.int .i64 a.k) (.int .i64 a.i) (.int .u64 a.b) (.string ⟨a.t.toArray⟩) (.slice l5 n5 c5) := ⟨_, rfl⟩
        have P6s := Lib.hid (show Blk w7 p6 (V5 0 0 0 ⟨#[]⟩ none 0 0) from by rw [h7]; exact P6x25.out.keep (st5_kept _ _ _ _ _) (fun e => NE.out (Eq.symm e)))
        have hS9 := HKEEP.out w7 (by rw [h7]; exact stB HWx25.out Q5.out)
        rw [← h7]
        have HE7 := Lib.hid h7
        clear h7
        refine hK.out _ _ hS9 (fun hHeld9 => ?_)
        clear hK K hS9
        try simp only [Act.put, List.setIfInBounds_toArray, List.set_cons_zero, List.set_cons_succ]
        refine lastL (i := 7) (by kernel_rfl) rfl (by kernel_rfl) (by kernel_rfl) (fun K hK => ?_)
        refine step_store25 (k := b.k) (i := b.i) (b := b.b) (t := ⟨b.t.toArray⟩) (l := l6) (n := n6) (c := c6) (by rfl) 6 23 (by rfl) (by go_simp) (by go_simp) P6s.out (by rfl) ?_
        refine hK.out _ _ ?_
        clear hK K hHeld9
        go_wp2_with fail
        go_meet
        case rel => exact ⟨p5, p6, l5, n5, c5, l6, n6, c6, rfl, rfl, by rw [HE7.out]; exact relE HWx25.out P5x25.out P6x25.out Q5.out Q6.out NE.out ((G5x25.out.st (by simp) _ _ _ _ _).st (by simp) _ _ _ _ _) ((G6x25.out.st (by simp) _ _ _ _ _).st (by simp) _ _ _ _ _)⟩
    · refine ⟨_, rfl, fun K hK => ?_⟩
      refine step_alloc25 rfl rfl ?_
      intro p6 x26 hpx26 hPx26 hbx26 hsx26
      have HWx26 := Lib.hid (HW0.out.trans (hbx26.mono HW0.out.size))
      have P6x26 := Lib.hid hPx26
      have Q6 := Lib.hid (show w3.heap.size ≤ p6 from by rw [hpx26]; exact HW0.out.size)
      have LPx26 := Lib.hid (show p6 < x26.heap.size from by omega)
      clear hpx26 hPx26 hbx26 hsx26
      refine hK.out _ _ (HKEEP.out _ HWx26.out) (fun hHeldx26 => ?_)
      clear hK K
      try simp only [Act.put, List.setIfInBounds_toArray, List.set_cons_zero, List.set_cons_succ]
      refine someL (is := [1, 4]) (by kernel_rfl) (by simp) (fun i hi => ?_)
      simp only [List.mem_cons, List.mem_nil_iff, or_false] at hi
      rcases hi with rfl | rfl
      · refine ⟨_, rfl, fun K hK => ?_⟩
        (go_simp; go_at_call 27; (with_reducible refine (HC5.out _ HWx26.out).mono ?_); rintro ex27 x27 ⟨l5, n5, c5, rfl, hfx27, hbx27⟩)
        have HWx27 := Lib.hid (HWx26.out.trans (hbx27.mono HWx26.out.size))
        have G5x27 := Lib.hid (Got.of1 hfx27 HWx26.out.size LPx26.out)
        have P6x27 := Lib.hid (P6x26.out.below hbx27)
        have LPx27 := Lib.hid (Nat.lt_of_lt_of_le LPx26.out hbx27.size)
        clear hfx27 hbx27
        refine hK.out _ _ (HKEEP.out _ HWx27.out) (fun hHeldx27 => ?_)
        clear hK K
        try simp only [Act.put, List.setIfInBounds_toArray, List.set_cons_zero, List.set_cons_succ]
        refine someL (is := [3, 4]) (by kernel_rfl) (by simp) (fun i hi => ?_)
        simp only [List.mem_cons, List.mem_nil_iff, or_false] at hi
        rcases hi with rfl | rfl
        · refine ⟨_, rfl, fun K hK => ?_⟩
          (go_simp; go_at_call 27; (with_reducible refine (HC6.out _ HWx27.out).mono ?_); rintro ex28 x28 ⟨l6, n6, c6, rfl, hfx28, hbx28⟩)
          have HWx28 := Lib.hid (HWx27.out.trans (hbx28.mono HWx27.out.size))
          have G6x28 := Lib.hid (Got.of1 hfx28 HWx27.out.size LPx27.out)
          have G5x28 := Lib.hid (G5x27.out.below hbx28)
          have P6x28 := Lib.hid (P6x27.out.below hbx28)
          have LPx28 := Lib.hid (Nat.lt_of_lt_of_le LPx27.out hbx28.size)
          clear hfx28 hbx28
          refine hK.out _ _ (HKEEP.out _ HWx28.out) (fun hHeldx28 => ?_)
          clear hK K
          try simp only [Act.put, List.setIfInBounds_toArray, List.set_cons_zero, List.set_cons_succ]
          refine oneL (i := 4) (by kernel_rfl) rfl (fun K hK => ?_)
          refine step_alloc25 rfl rfl ?_
          intro p5 x29 hpx29 hPx29 hbx29 hsx29
          have HWx29 := Lib.hid (HWx28.out.trans (hbx29.mono HWx28.out.size))
          have P5x29 := Lib.hid hPx29
          have Q5 := Lib.hid (show w3.heap.size ≤ p5 from by rw [hpx29]; exact HWx28.out.size)
          have G5x29 := Lib.hid ((G5x28.out.more hpx29).below hbx29)
          have G6x29 := Lib.hid ((G6x28.out.more hpx29).below hbx29)
          have P6x29 := Lib.hid (P6x28.out.below hbx29)
          have NE := Lib.hid (show p5 ≠ p6 from by have := LPx28.out; omega)
          have LPx29 := Lib.hid (show p5 < x29.heap.size ∧ p6 < x29.heap.size from by have := LPx28.out; omega)
          clear hpx29 hPx29 hbx29 hsx29
          refine hK.out _ _ (HKEEP.out _ HWx29.out) (fun hHeldx29 => ?_)
          clear hK K
          try simp only [Act.put, List.setIfInBounds_toArray, List.set_cons_zero, List.set_cons_succ]
          refine oneL (i := 6) (by kernel_rfl) rfl (fun K hK => ?_)
          refine step_store25 (k := a.k) (i := a.i) (b := a.b) (t := ⟨a.t.toArray⟩) (l := l5) (n := n5) (c := c5) (by rfl) 5 21 (by rfl) (by go_simp) (by go_simp) P5x29.out (by rfl) ?_
          obtain ⟨w7, h7⟩ : ∃ w7, w7 = st5 x29 p5 (.int .i64 a.k) (.int .i64 a.i) (.int .u64 a.b) (.string ⟨a.t.toArray⟩) (.slice l5 n5 c5) := ⟨_, rfl⟩
          have P6s := Lib.hid (show Blk w7 p6 (V5 0 0 0 ⟨#[]⟩ none 0 0) from by rw [h7]; exact P6x29.out.keep (st5_kept _ _ _ _ _) (fun e => NE.out (Eq.symm e)))
          have hS9 := HKEEP.out w7 (by rw [h7]; exact stB HWx29.out Q5.out)
          rw [← h7]
          have HE7 := Lib.hid h7
          clear h7
          refine hK.out _ _ hS9 (fun hHeld9 => ?_)
          clear hK K hS9
          try simp only [Act.put, List.setIfInBounds_toArray, List.set_cons_zero, List.set_cons_succ]
          refine lastL (i := 7) (by kernel_rfl) rfl (by kernel_rfl) (by kernel_rfl) (fun K hK => ?_)
          refine step_store25 (k := b.k) (i := b.i) (b := b.b) (t := ⟨b.t.toArray⟩) (l := l6) (n := n6) (c := c6) (by rfl) 6 23 (by rfl) (by go_simp) (by go_simp) P6s.out (by rfl) ?_
          refine hK.out _ _ ?_
          clear hK K hHeld9
          go_wp2_with fail
          go_meet
          case rel => exact ⟨p5, p6, l5, n5, c5, l6, n6, c6, rfl, rfl, by rw [HE7.out]; exact relE HWx29.out P5x29.out P6x29.out Q5.out Q6.out NE.out ((G5x29.out.st (by simp) _ _ _ _ _).st (by simp) _ _ _ _ _) ((G6x29.out.st (by simp) _ _ _ _ _).st (by simp) _ _ _ _ _)⟩
        · refine ⟨_, rfl, fun K hK => ?_⟩
          refine step_alloc25 rfl rfl ?_
          intro p5 x30 hpx30 hPx30 hbx30 hsx30
          have HWx30 := Lib.hid (HWx27.out.trans (hbx30.mono HWx27.out.size))
          have P5x30 := Lib.hid hPx30
          have Q5 := Lib.hid (show w3.heap.size ≤ p5 from by rw [hpx30]; exact HWx27.out.size)
          have G5x30 := Lib.hid ((G5x27.out.more hpx30).below hbx30)
          have P6x30 := Lib.hid (P6x27.out.below hbx30)
          have NE := Lib.hid (show p5 ≠ p6 from by have := LPx27.out; omega)
          have LPx30 := Lib.hid (show p5 < x30.heap.size ∧ p6 < x30.heap.size from by have := LPx27.out; omega)
          clear hpx30 hPx30 hbx30 hsx30
          refine hK.out _ _ (HKEEP.out _ HWx30.out) (fun hHeldx30 => ?_)
          clear hK K
          try simp only [Act.put, List.setIfInBounds_toArray, List.set_cons_zero, List.set_cons_succ]
          refine oneL (i := 3) (by kernel_rfl) rfl (fun K hK => ?_)
          (go_simp; go_at_call 27; (with_reducible refine (HC6.out _ HWx30.out).mono ?_); rintro ex31 x31 ⟨l6, n6, c6, rfl, hfx31, hbx31⟩)
          have HWx31 := Lib.hid (HWx30.out.trans (hbx31.mono HWx30.out.size))
          have G6x31 := Lib.hid (Got.of2 hfx31 HWx30.out.size LPx30.out)
          have G5x31 := Lib.hid (G5x30.out.below hbx31)
          have P5x31 := Lib.hid (P5x30.out.below hbx31)
          have P6x31 := Lib.hid (P6x30.out.below hbx31)
          have LPx31 := Lib.hid ((⟨Nat.lt_of_lt_of_le LPx30.out.1 hbx31.size, Nat.lt_of_lt_of_le LPx30.out.2 hbx31.size⟩ : p5 < x31.heap.size ∧ p6 < x31.heap.size))
          clear hfx31 hbx31
          refine hK.out _ _ (HKEEP.out _ HWx31.out) (fun hHeldx31 => ?_)
          clear hK K
          try simp only [Act.put, List.setIfInBounds_toArray, List.set_cons_zero, List.set_cons_succ]
          refine oneL (i := 6) (by kernel_rfl) rfl (fun K hK => ?_)
          refine step_store25 (k := a.k) (i := a.i) (b := a.b) (t := ⟨a.t.toArray⟩) (l := l5) (n := n5) (c := c5) (by rfl) 5 21 (by rfl) (by go_simp) (by go_simp) P5x31.out (by rfl) ?_
          obtain ⟨w7, h7⟩ : ∃ w7, w7 = st5 x31 p5 (.int .i64 a.k) (.int .i64 a.i) (.int .u64 a.b) (.string ⟨a.t.toArray⟩) (.slice l5 n5 c5) := ⟨_, rfl⟩
          have P6s := Lib.hid (show Blk w7 p6 (V5 0 0 0 ⟨#[]⟩ none 0 0) from by rw [h7]; exact P6x31.out.keep (st5_kept _ _ _ _ _) (fun e => NE.out (Eq.symm e)))
          have hS9 := HKEEP.out w7 (by rw [h7]; exact stB HWx31.out Q5.out)
          rw [← h7]
          have HE7 := Lib.hid h7
          clear h7
          refine hK.out _ _ hS9 (fun hHeld9 => ?_)
          clear hK K hS9
          try simp only [Act.put, List.setIfInBounds_toArray, List.set_cons_zero, List.set_cons_succ]
          refine lastL (i := 7) (by kernel_rfl) rfl (by kernel_rfl) (by kernel_rfl) (fun K hK => ?_)
          refine step_store25 (k := b.k) (i := b.i) (b := b.b) (t := ⟨b.t.toArray⟩) (l := l6) (n := n6) (c := c6) (by rfl) 6 23 (by rfl) (by go_simp) (by go_simp) P6s.out (by rfl) ?_
          refine hK.out _ _ ?_
          clear hK K hHeld9
          go_wp2_with fail
          go_meet
          case rel => exact ⟨p5, p6, l5, n5, c5, l6, n6, c6, rfl, rfl, by rw [HE7.out]; exact relE HWx31.out P5x31.out P6x31.out Q5.out Q6.out NE.out ((G5x31.out.st (by simp) _ _ _ _ _).st (by simp) _ _ _ _ _) ((G6x31.out.st (by simp) _ _ _ _ _).st (by simp) _ _ _ _ _)⟩
      · refine ⟨_, rfl, fun K hK => ?_⟩
        refine step_alloc25 rfl rfl ?_
        intro p5 x32 hpx32 hPx32 hbx32 hsx32
        have HWx32 := Lib.hid (HWx26.out.trans (hbx32.mono HWx26.out.size))
        have P5x32 := Lib.hid hPx32
        have Q5 := Lib.hid (show w3.heap.size ≤ p5 from by rw [hpx32]; exact HWx26.out.size)
        have P6x32 := Lib.hid (P6x26.out.below hbx32)
        have NE := Lib.hid (show p5 ≠ p6 from by have := LPx26.out; omega)
        have LPx32 := Lib.hid (show p5 < x32.heap.size ∧ p6 < x32.heap.size from by have := LPx26.out; omega)
        clear hpx32 hPx32 hbx32 hsx32
        refine hK.out _ _ (HKEEP.out _ HWx32.out) (fun hHeldx32 => ?_)
        clear hK K
        try simp only [Act.put, List.setIfInBounds_toArray, List.set_cons_zero, List.set_cons_succ]
        refine oneL (i := 1) (by kernel_rfl) rfl (fun K hK => ?_)
        (go_simp; go_at_call 27; (with_reducible refine (HC5.out _ HWx32.out).mono ?_); rintro ex33 x33 ⟨l5, n5, c5, rfl, hfx33, hbx33⟩)
        have HWx33 := Lib.hid (HWx32.out.trans (hbx33.mono HWx32.out.size))
        have G5x33 := Lib.hid (Got.of2 hfx33 HWx32.out.size LPx32.out)
        have P5x33 := Lib.hid (P5x32.out.below hbx33)
        have P6x33 := Lib.hid (P6x32.out.below hbx33)
        have LPx33 := Lib.hid ((⟨Nat.lt_of_lt_of_le LPx32.out.1 hbx33.size, Nat.lt_of_lt_of_le LPx32.out.2 hbx33.size⟩ : p5 < x33.heap.size ∧ p6 < x33.heap.size))
        clear hfx33 hbx33
        refine hK.out _ _ (HKEEP.out _ HWx33.out) (fun hHeldx33 => ?_)
        clear hK K
        try simp only [Act.put, List.setIfInBounds_toArray, List.set_cons_zero, List.set_cons_succ]
        refine oneL (i := 3) (by kernel_rfl) rfl (fun K hK => ?_)
        (go_simp; go_at_call 27; (with_reducible refine (HC6.out _ HWx33.out).mono ?_); rintro ex34 x34 ⟨l6, n6, c6, rfl, hfx34, hbx34⟩)
        have HWx34 := Lib.hid (HWx33.out.trans (hbx34.mono HWx33.out.size))
        have G6x34 := Lib.hid (Got.of2 hfx34 HWx33.out.size LPx33.out)
        have G5x34 := Lib.hid (G5x33.out.below hbx34)
        have P5x34 := Lib.hid (P5x33.out.below hbx34)
        have P6x34 := Lib.hid (P6x33.out.below hbx34)
        have LPx34 := Lib.hid ((⟨Nat.lt_of_lt_of_le LPx33.out.1 hbx34.size, Nat.lt_of_lt_of_le LPx33.out.2 hbx34.size⟩ : p5 < x34.heap.size ∧ p6 < x34.heap.size))
        clear hfx34 hbx34
        refine hK.out _ _ (HKEEP.out _ HWx34.out) (fun hHeldx34 => ?_)
        clear hK K
        try simp only [Act.put, List.setIfInBounds_toArray, List.set_cons_zero, List.set_cons_succ]
        refine oneL (i := 6) (by kernel_rfl) rfl (fun K hK => ?_)
        refine step_store25 (k := a.k) (i := a.i) (b := a.b) (t := ⟨a.t.toArray⟩) (l := l5) (n := n5) (c := c5) (by rfl) 5 21 (by rfl) (by go_simp) (by go_simp) P5x34.out (by rfl) ?_
        obtain ⟨w7, h7⟩ : ∃ w7, w7 = st5 x34 p5 (.int .i64 a.k) (.int .i64 a.i) (.int .u64 a.b) (.string ⟨a.t.toArray⟩) (.slice l5 n5 c5) := ⟨_, rfl⟩
        have P6s := Lib.hid (show Blk w7 p6 (V5 0 0 0 ⟨#[]⟩ none 0 0) from by rw [h7]; exact P6x34.out.keep (st5_kept _ _ _ _ _) (fun e => NE.out (Eq.symm e)))
        have hS9 := HKEEP.out w7 (by rw [h7]; exact stB HWx34.out Q5.out)
        rw [← h7]
        have HE7 := Lib.hid h7
        clear h7
        refine hK.out _ _ hS9 (fun hHeld9 => ?_)
        clear hK K hS9
        try simp only [Act.put, List.setIfInBounds_toArray, List.set_cons_zero, List.set_cons_succ]
        refine lastL (i := 7) (by kernel_rfl) rfl (by kernel_rfl) (by kernel_rfl) (fun K hK => ?_)
        refine step_store25 (k := b.k) (i := b.i) (b := b.b) (t := ⟨b.t.toArray⟩) (l := l6) (n := n6) (c := c6) (by rfl) 6 23 (by rfl) (by go_simp) (by go_simp) P6s.out (by rfl) ?_
        refine hK.out _ _ ?_
        clear hK K hHeld9
        go_wp2_with fail
        go_meet
        case rel => exact ⟨p5, p6, l5, n5, c5, l6, n6, c6, rfl, rfl, by rw [HE7.out]; exact relE HWx34.out P5x34.out P6x34.out Q5.out Q6.out NE.out ((G5x34.out.st (by simp) _ _ _ _ _).st (by simp) _ _ _ _ _) ((G6x34.out.st (by simp) _ _ _ _ _).st (by simp) _ _ _ _ _)⟩

  case rest =>
    obtain ⟨p5, p6, l5, n5, c5, l6, n6, c6, rfl, rfl, hR⟩ := hcut
    have HR := Lib.hid hR
    have hk := HKEEP.out wc hR.hb
    obtain ⟨⟨x0, x1, x2, x3, x4⟩, y0, y1, y2, y3, y4⟩ := hk
    have u0 := hR.ba.cell 0 rfl
    have u1 := hR.ba.cell 1 rfl
    have u2 := hR.ba.cell 2 rfl
    have u3 := hR.ba.cell 3 rfl
    have u4 := hR.ba.cell 4 rfl
    have v0 := hR.bb.cell 0 rfl
    have v1 := hR.bb.cell 1 rfl
    have v2 := hR.bb.cell 2 rfl
    have v3 := hR.bb.cell 3 rfl
    have v4 := hR.bb.cell 4 rfl
    have HBC := Lib.hid (HB3.out.trans (hR.hb.mono HB3.out.size))
    have HEQ := Lib.hid (hR.aa.equal hR.ab HOK.out.1 HOK.out.2)
    have HRQ := Lib.hid (fun (wx : World) (hx : Below wc.heap.size wc wx) => (HA.out.below (HBC.out.trans (hx.mono HBC.out.size))).any.requal (HB.out.below (HBC.out.trans (hx.mono HBC.out.size))).any HOK.out.1 HOK.out.2)
    have hsm : (headM a.k a.i a.b a.t n5 b.k b.i b.b b.t n6 && sameM a.l b.l) = (headM a.k a.i a.b a.t na b.k b.i b.b b.t nb && sameM a.l b.l) := by
      rw [← hR.aa.len, ← hR.ab.len, HA.out.len, HB.out.len]
    have HSM := Lib.hid (fun (wx : World) (hx : Below wc.heap.size wc wx) => show Calls Tryd.prog 22 #[.agg #[.int .i64 a.k, .int .i64 a.i, .int .u64 a.b, .string ⟨a.t.toArray⟩, .slice l5 n5 c5], .agg #[.int .i64 b.k, .int .i64 b.i, .int .u64 b.b, .string ⟨b.t.toArray⟩, .slice l6 n6 c6]] wx
      (fun e w' => e = .returned (.bool (headM a.k a.i a.b a.t na b.k b.i b.b b.t nb && sameM a.l b.l)) ∧ Below wx.heap.size wx w') from by rw [← hsm]; exact (hR.aa.below hx).same (hR.ab.below hx))
    have HRS := Lib.hid (fun (wx : World) (hx : Below wc.heap.size wc wx) => (HA.out.below (HBC.out.trans (hx.mono HBC.out.size))).rsame (HB.out.below (HBC.out.trans (hx.mono HBC.out.size))))
    have hxa : (headM a.k a.i a.b a.t n5 a.k a.i a.b a.t na && sameM a.l a.l) = true := (same_iff hR.aa.len HA.out.len).2 rfl
    have hyb : (headM b.k b.i b.b b.t n6 b.k b.i b.b b.t nb && sameM b.l b.l) = true := (same_iff hR.ab.len HB.out.len).2 rfl
    have HXA := Lib.hid (fun (wx : World) (hx : Below wc.heap.size wc wx) => show Calls Tryd.prog 17 #[.agg #[.int .i64 a.k, .int .i64 a.i, .int .u64 a.b, .string ⟨a.t.toArray⟩, .slice l5 n5 c5], .agg #[.int .i64 a.k, .int .i64 a.i, .int .u64 a.b, .string ⟨a.t.toArray⟩, .slice la na ca]] wx
      (fun e w' => e = .returned (.bool true) ∧ Below wx.heap.size wx w') from by rw [← hxa]; exact (hR.aa.below hx).rsame' (HA.out.below (HBC.out.trans (hx.mono HBC.out.size))))
    have HYB := Lib.hid (fun (wx : World) (hx : Below wc.heap.size wc wx) => show Calls Tryd.prog 17 #[.agg #[.int .i64 b.k, .int .i64 b.i, .int .u64 b.b, .string ⟨b.t.toArray⟩, .slice l6 n6 c6], .agg #[.int .i64 b.k, .int .i64 b.i, .int .u64 b.b, .string ⟨b.t.toArray⟩, .slice lb nb cb]] wx
      (fun e w' => e = .returned (.bool true) ∧ Below wx.heap.size wx w') from by rw [← hyb]; exact (hR.ab.below hx).rsame' (HB.out.below (HBC.out.trans (hx.mono HBC.out.size))))
    generalize (headM a.k a.i a.b a.t na b.k b.i b.b b.t nb && sameM a.l b.l) = sm at *
    generalize eqD a b = rr at *
    obtain ⟨r1, r2⟩ := rr
    clear hsm hxa hyb hR HC5 HC6 HW0 HKEEP
    go_wp2_with (first
      | (go_at_call 29; (with_reducible refine HEQ.out.mono ?_); rintro e8 w8 ⟨rfl, hB⟩
         have HB8 := Lib.hid hB
         have HC8 := Lib.hid (HRQ.out w8 hB)
         replace x0 := cellAt hB x0; replace x1 := cellAt hB x1; replace x2 := cellAt hB x2; replace x3 := cellAt hB x3; replace x4 := cellAt hB x4; replace y0 := cellAt hB y0; replace y1 := cellAt hB y1; replace y2 := cellAt hB y2; replace y3 := cellAt hB y3; replace y4 := cellAt hB y4
         replace u0 := cellAt hB u0; replace u1 := cellAt hB u1; replace u2 := cellAt hB u2; replace u3 := cellAt hB u3; replace u4 := cellAt hB u4; replace v0 := cellAt hB v0; replace v1 := cellAt hB v1; replace v2 := cellAt hB v2; replace v3 := cellAt hB v3; replace v4 := cellAt hB v4
         clear hB)
      | (go_at_call 30; (with_reducible refine HC8.out.mono ?_); rintro e9 w9 ⟨rfl, hB⟩
         have HB9 := Lib.hid (HB8.out.trans (hB.mono HB8.out.size))
         replace x0 := cellAt hB x0; replace x1 := cellAt hB x1; replace x2 := cellAt hB x2; replace x3 := cellAt hB x3; replace x4 := cellAt hB x4; replace y0 := cellAt hB y0; replace y1 := cellAt hB y1; replace y2 := cellAt hB y2; replace y3 := cellAt hB y3; replace y4 := cellAt hB y4
         replace u0 := cellAt hB u0; replace u1 := cellAt hB u1; replace u2 := cellAt hB u2; replace u3 := cellAt hB u3; replace u4 := cellAt hB u4; replace v0 := cellAt hB v0; replace v1 := cellAt hB v1; replace v2 := cellAt hB v2; replace v3 := cellAt hB v3; replace v4 := cellAt hB v4
         clear hB))
    have HK9 := Lib.hid (show ∀ wx, Below w9.heap.size w9 wx → ((wx.cell? ⟨p, 0, none⟩ = some (.int .i64 a.k) ∧ wx.cell? ⟨p, 1, none⟩ = some (.int .i64 a.i) ∧ wx.cell? ⟨p, 2, none⟩ = some (.int .u64 a.b) ∧ wx.cell? ⟨p, 3, none⟩ = some (.string ⟨a.t.toArray⟩) ∧ wx.cell? ⟨p, 4, none⟩ = some (.slice la na ca)) ∧ (wx.cell? ⟨q, 0, none⟩ = some (.int .i64 b.k) ∧ wx.cell? ⟨q, 1, none⟩ = some (.int .i64 b.i) ∧ wx.cell? ⟨q, 2, none⟩ = some (.int .u64 b.b) ∧ wx.cell? ⟨q, 3, none⟩ = some (.string ⟨b.t.toArray⟩) ∧ wx.cell? ⟨q, 4, none⟩ = some (.slice lb nb cb))) ∧ (wx.cell? ⟨p5, 0, none⟩ = some (.int .i64 a.k) ∧ wx.cell? ⟨p5, 1, none⟩ = some (.int .i64 a.i) ∧ wx.cell? ⟨p5, 2, none⟩ = some (.int .u64 a.b) ∧ wx.cell? ⟨p5, 3, none⟩ = some (.string ⟨a.t.toArray⟩) ∧ wx.cell? ⟨p5, 4, none⟩ = some (.slice l5 n5 c5)) ∧ (wx.cell? ⟨p6, 0, none⟩ = some (.int .i64 b.k) ∧ wx.cell? ⟨p6, 1, none⟩ = some (.int .i64 b.i) ∧ wx.cell? ⟨p6, 2, none⟩ = some (.int .u64 b.b) ∧ wx.cell? ⟨p6, 3, none⟩ = some (.string ⟨b.t.toArray⟩) ∧ wx.cell? ⟨p6, 4, none⟩ = some (.slice l6 n6 c6)) from fun wx hx => ⟨⟨⟨cellAt hx x0, cellAt hx x1, cellAt hx x2, cellAt hx x3, cellAt hx x4⟩, ⟨cellAt hx y0, cellAt hx y1, cellAt hx y2, cellAt hx y3, cellAt hx y4⟩⟩, ⟨cellAt hx u0, cellAt hx u1, cellAt hx u2, cellAt hx u3, cellAt hx u4⟩, ⟨cellAt hx v0, cellAt hx v1, cellAt hx v2, cellAt hx v3, cellAt hx v4⟩⟩)
    have HU9 := Lib.hid (fun (wx : World) (hx : Below w9.heap.size w9 wx) => HB9.out.trans (hx.mono HB9.out.size))
    have HW9 := Lib.hid (fun (wx : World) (hx : Below w9.heap.size w9 wx) => HBC.out.trans ((HU9.out wx hx).mono HBC.out.size))
    clear HEQ HRQ HC8
    go_region_held3 (fun wx : World => ((wx.cell? ⟨p, 0, none⟩ = some (.int .i64 a.k) ∧ wx.cell? ⟨p, 1, none⟩ = some (.int .i64 a.i) ∧ wx.cell? ⟨p, 2, none⟩ = some (.int .u64 a.b) ∧ wx.cell? ⟨p, 3, none⟩ = some (.string ⟨a.t.toArray⟩) ∧ wx.cell? ⟨p, 4, none⟩ = some (.slice la na ca)) ∧ (wx.cell? ⟨q, 0, none⟩ = some (.int .i64 b.k) ∧ wx.cell? ⟨q, 1, none⟩ = some (.int .i64 b.i) ∧ wx.cell? ⟨q, 2, none⟩ = some (.int .u64 b.b) ∧ wx.cell? ⟨q, 3, none⟩ = some (.string ⟨b.t.toArray⟩) ∧ wx.cell? ⟨q, 4, none⟩ = some (.slice lb nb cb))) ∧ (wx.cell? ⟨p5, 0, none⟩ = some (.int .i64 a.k) ∧ wx.cell? ⟨p5, 1, none⟩ = some (.int .i64 a.i) ∧ wx.cell? ⟨p5, 2, none⟩ = some (.int .u64 a.b) ∧ wx.cell? ⟨p5, 3, none⟩ = some (.string ⟨a.t.toArray⟩) ∧ wx.cell? ⟨p5, 4, none⟩ = some (.slice l5 n5 c5)) ∧ (wx.cell? ⟨p6, 0, none⟩ = some (.int .i64 b.k) ∧ wx.cell? ⟨p6, 1, none⟩ = some (.int .i64 b.i) ∧ wx.cell? ⟨p6, 2, none⟩ = some (.int .u64 b.b) ∧ wx.cell? ⟨p6, 3, none⟩ = some (.string ⟨b.t.toArray⟩) ∧ wx.cell? ⟨p6, 4, none⟩ = some (.slice l6 n6 c6)))
      (first | exact HK9.out _ (Below.refl _ _) | exact HK9.out _ (Below.refl _ _).drew | exact HK9.out _ HBA.out | exact HK9.out _ HBB.out | exact HK9.out _ HBD.out | exact HK9.out _ HBE.out | exact HK9.out _ HBF.out)
      (first
        | (go_simp; go_at_call 22; (with_reducible refine (HSM.out _ (HU9.out _ (Below.refl _ _).drew)).mono ?_); rintro eA wA ⟨rfl, hbA⟩; have HBA := Lib.hid ((Below.refl w9.heap.size w9).drew.trans hbA); clear hbA)
        | (go_simp; go_at_call 17; (with_reducible refine (HRS.out _ (HU9.out _ HBA.out)).mono ?_); rintro eB wB ⟨rfl, hbB⟩; have HBB := Lib.hid (HBA.out.trans (hbB.mono HBA.out.size)); clear hbB)
        | (go_simp; go_at_call 17; (with_reducible refine (HXA.out _ (HU9.out _ HBB.out)).mono ?_); rintro eD wD ⟨rfl, hbD⟩; have HBD := Lib.hid (HBB.out.trans (hbD.mono HBB.out.size)); clear hbD)
        | (go_simp; go_at_call 17; (with_reducible refine (HYB.out _ (HU9.out _ HBD.out)).mono ?_); rintro eE wE ⟨rfl, hbE⟩; have HBE := Lib.hid (HBD.out.trans (hbE.mono HBD.out.size)); clear hbE)
        | (go_simp; go_at_call 13; (with_reducible refine (HAW.out _ (HW9.out _ HBE.out)).mono ?_); rintro eF wF ⟨rfl, hbF⟩; have HBF := Lib.hid (HBE.out.trans (hbF.mono HBE.out.size)); clear hbF))
    all_goals
      go_wp2_with fail
      go_ret
      exact ⟨rfl, HW9.out _ HBF.out⟩
end Go.Proofs.YtofpdhkdnbnobaaDoor
