/-
  ErrsCompares (walk): the law. Not a statement of the seat.
-/
import Derived.Test.YtbldidiibkcelaaGreatDoorHeldL
import Derived.Test.YtbldidiibkcelaaGreatDoorERValid
import Derived.Test.YtbldidiibkcelaaGreatDoorEIs16
namespace Go.Proofs.YtbldidiibkcelaaGreatDoor
open Go.RowKit

set_option maxRecDepth 100000 in
set_option maxHeartbeats 16000000 in
theorem errsComparesT {a0 : Addr} {S : Nat → Prop} {e f : Et} {bl : Option Addr} {bn bc : Nat} {cl : Option Addr} {cn cc : Nat} {l : Option Addr} {n cap : Nat} {bl' : Option Addr} {bn' bc' : Nat} {cl' : Option Addr} {cn' cc' : Nat} {l' : Option Addr} {n' cap' : Nat} {w : World}
    (hE : ErAt S w e bl bn bc cl cn cc l n cap) (hF : ErAt S w f bl' bn' bc' cl' cn' cc' l' n' cap') (hS : ∀ x, S x → x < w.heap.size) (hcs : e.cs.length ≤ 140737488355328) (hks : e.l.small) (hcs' : f.cs.length ≤ 140737488355328) (hks' : f.l.small) (hL : LB a0 w) :
    Calls Tryz.prog 3 #[vE e.k e.i e.c e.t e.b bl bn bc cl cn cc l n cap, vE f.k f.i f.c f.t f.b bl' bn' bc' cl' cn' cc' l' n' cap'] w (fun r w' => r = .returned (.bool true) ∧ Below w.heap.size w w') := by
  have hSx : ∀ wx, Below w.heap.size w wx → ∀ x, S x → x < wx.heap.size := fun wx hx x hx' => Nat.lt_of_lt_of_le (hS x hx') hx.size
  have hEx : ∀ wx, Below w.heap.size w wx → ErAt S wx e bl bn bc cl cn cc l n cap := fun wx hx => hE.same (fun x _ hlt => hx.block x hlt) (fun x hx _ => hx)
  have hFx : ∀ wx, Below w.heap.size w wx → ErAt S wx f bl' bn' bc' cl' cn' cc' l' n' cap' := fun wx hx => hF.same (fun x _ hlt => hx.block x hlt) (fun x hx _ => hx)
  have HV1 := Lib.hid (fun (wx : World) (hx : Below w.heap.size w wx) => show Calls Tryz.prog 10 #[vE e.k e.i e.c e.t e.b bl bn bc cl cn cc l n cap] wx (fun r w' => r = .returned (.bool (ervalidM e)) ∧ Below wx.heap.size wx w') from ervalidN (hEx wx hx) (hSx wx hx) hcs hks)
  have HV2 := Lib.hid (fun (wx : World) (hx : Below w.heap.size w wx) => show Calls Tryz.prog 10 #[vE f.k f.i f.c f.t f.b bl' bn' bc' cl' cn' cc' l' n' cap'] wx (fun r w' => r = .returned (.bool (ervalidM f)) ∧ Below wx.heap.size wx w') from ervalidN (hFx wx hx) (hSx wx hx) hcs' hks')
  have HW := Lib.hid (fun (wx : World) => awakeT wx)
  have hok : ervalidM e = true → ervalidM f = true → 
      (∀ wx, Below w.heap.size w wx → Calls Tryz.prog 12 #[vE e.k e.i e.c e.t e.b bl bn bc cl cn cc l n cap, vE f.k f.i f.c f.t f.b bl' bn' bc' cl' cn' cc' l' n' cap'] wx (fun r w' => r = .returned (.tuple #[.bool (eqE e.k e.i e.c e.t e.b f.k f.i f.c f.t f.b).1, .int .i64 (eqE e.k e.i e.c e.t e.b f.k f.i f.c f.t f.b).2]) ∧ Below wx.heap.size wx w')) ∧
      (∀ wx, Below w.heap.size w wx → Calls Tryz.prog 13 #[vE e.k e.i e.c e.t e.b bl bn bc cl cn cc l n cap, vE f.k f.i f.c f.t f.b bl' bn' bc' cl' cn' cc' l' n' cap'] wx (fun r w' => r = .returned (.tuple #[.bool (eqE e.k e.i e.c e.t e.b f.k f.i f.c f.t f.b).1, .int .i64 (eqE e.k e.i e.c e.t e.b f.k f.i f.c f.t f.b).2]) ∧ Below wx.heap.size wx w')) ∧
      (∀ wx, Below w.heap.size w wx → Calls Tryz.prog 14 #[vE e.k e.i e.c e.t e.b bl bn bc cl cn cc l n cap, vE f.k f.i f.c f.t f.b bl' bn' bc' cl' cn' cc' l' n' cap'] wx (fun r w' => r = .returned (.bool (esame1 e.k e.i e.c e.t e.b e.cs e.l f.k f.i f.c f.t f.b f.cs f.l)) ∧ Below wx.heap.size wx w')) ∧
      (∀ wx, Below w.heap.size w wx → Calls Tryz.prog 15 #[vE e.k e.i e.c e.t e.b bl bn bc cl cn cc l n cap, vE f.k f.i f.c f.t f.b bl' bn' bc' cl' cn' cc' l' n' cap'] wx (fun r w' => r = .returned (.bool (esame1 e.k e.i e.c e.t e.b e.cs e.l f.k f.i f.c f.t f.b f.cs f.l)) ∧ Below wx.heap.size wx w')) ∧
      (∀ wx, Below w.heap.size w wx → Calls Tryz.prog 16 #[vE e.k e.i e.c e.t e.b bl bn bc cl cn cc l n cap, vE f.k f.i f.c f.t f.b bl' bn' bc' cl' cn' cc' l' n' cap'] wx (fun r w' => r = .returned (.tuple #[.bool (isTop ⟨f.k, f.i, f.c, f.t, f.b, [], .nil⟩ e.k e.i e.c e.t e.b e.cs e.l).1, .int .i64 (isTop ⟨f.k, f.i, f.c, f.t, f.b, [], .nil⟩ e.k e.i e.c e.t e.b e.cs e.l).2]) ∧ Below wx.heap.size wx w')) ∧
      (∀ wx, Below w.heap.size w wx → Calls Tryz.prog 17 #[vE e.k e.i e.c e.t e.b bl bn bc cl cn cc l n cap, vE f.k f.i f.c f.t f.b bl' bn' bc' cl' cn' cc' l' n' cap'] wx (fun r w' => r = .returned (.tuple #[.bool (isTop ⟨f.k, f.i, f.c, f.t, f.b, [], .nil⟩ e.k e.i e.c e.t e.b e.cs e.l).1, .int .i64 (isTop ⟨f.k, f.i, f.c, f.t, f.b, [], .nil⟩ e.k e.i e.c e.t e.b e.cs e.l).2]) ∧ Below wx.heap.size wx w')) := by
    intro h1 h2
    obtain ⟨_, ehE, erE, _⟩ := (ervalid_ok e).1 h1
    obtain ⟨_, _, erF, _⟩ := (ervalid_ok f).1 h2
    have erE' := erE
    unfold rright1 at erE' erF
    rw [Bool.and_eq_true] at erE' erF
    obtain ⟨fE, _, bE, _⟩ := fit_num erE'.1
    obtain ⟨fF, _, bF, _⟩ := fit_num erF.1
    exact ⟨fun wx hx => equal12 (hEx wx hx).1 (hFx wx hx).1 (hSx wx hx) bE bF (hL.below hx), fun wx hx => ereqN (hEx wx hx).1 (hFx wx hx).1 (hSx wx hx) bE bF,
      fun wx hx => esameG e.l f.l _ _ _ _ _ _ _ _ _ _ _ _ _ _ _ _ _ _ _ _ _ _ _ _ _ _ _ _ _ _ S wx (hEx wx hx) (hFx wx hx) (hSx wx hx),
      fun wx hx => ersameG e.l f.l _ _ _ _ _ _ _ _ _ _ _ _ _ _ _ _ _ _ _ _ _ _ _ _ _ _ _ _ _ _ S wx (hEx wx hx) (hFx wx hx) (hSx wx hx),
      fun wx hx => is16g fE fF (hEx wx hx) (hFx wx hx).1 (hSx wx hx) (hL.below hx) bF erE (by omega),
      fun wx hx => eristopN (hEx wx hx) (hFx wx hx).1 (hSx wx hx) bE (okL_right _ _ erE'.2) bF⟩
  have hn1 := eqE_nrm e.k e.i e.c e.t e.b f.k f.i f.c f.t f.b
  have hn2 : nrm (isTop ⟨f.k, f.i, f.c, f.t, f.b, [], .nil⟩ e.k e.i e.c e.t e.b e.cs e.l) := by
    unfold isTop
    exact nrm_if (nrm_b _) (is1_nrm _ _ _ _ _ _ _ _)
  generalize eqE e.k e.i e.c e.t e.b f.k f.i f.c f.t f.b = re at *
  generalize esame1 e.k e.i e.c e.t e.b e.cs e.l f.k f.i f.c f.t f.b f.cs f.l = sm at *
  generalize isTop ⟨f.k, f.i, f.c, f.t, f.b, [], .nil⟩ e.k e.i e.c e.t e.b e.cs e.l = ri at *
  obtain ⟨h1, h2, hB, hz9⟩ := ebox2_facts w e.k e.i e.c e.t e.b bl bn bc cl cn cc l n cap f.k f.i f.c f.t f.b bl' bn' bc' cl' cn' cc' l' n' cap'
  clear hz9 hSx hEx hFx hE hF hS hcs hks hcs' hks' hL
  unfold vE at HV1 HV2 hok ⊢
  go_enter Tryz.func3, Tryz.ntmps3
  go_upto_region 1 with (fail)
  change Code.wp _ _ _ _ (ebox2 w e.k e.i e.c e.t e.b bl bn bc cl cn cc l n cap f.k f.i f.c f.t f.b bl' bn' bc' cl' cn' cc' l' n' cap')
  generalize ebox2 w e.k e.i e.c e.t e.b bl bn bc cl cn cc l n cap f.k f.i f.c f.t f.b bl' bn' bc' cl' cn' cc' l' n' cap' = w1 at *
  obtain ⟨q, hq⟩ : ∃ x, x = w.heap.size + 1 := ⟨_, rfl⟩
  obtain ⟨p, hp⟩ : ∃ x, x = w.heap.size := ⟨_, rfl⟩
  rw [← hq] at h2
  rw [← hp] at h1
  rw [← hq, ← hp]
  have x0 := h1.cell 0 rfl
  have y0 := h2.cell 0 rfl
  have x1 := h1.cell 1 rfl
  have y1 := h2.cell 1 rfl
  have x2 := h1.cell 2 rfl
  have y2 := h2.cell 2 rfl
  have x3 := h1.cell 3 rfl
  have y3 := h2.cell 3 rfl
  have x4 := h1.cell 4 rfl
  have y4 := h2.cell 4 rfl
  have x5 := h1.cell 5 rfl
  have y5 := h2.cell 5 rfl
  have x6 := h1.cell 6 rfl
  have y6 := h2.cell 6 rfl
  have x7 := h1.cell 7 rfl
  have y7 := h2.cell 7 rfl
  have x8 := h1.cell 8 rfl
  have y8 := h2.cell 8 rfl
  have x9 := h1.cell 9 rfl
  have y9 := h2.cell 9 rfl
  have x10 := h1.cell 10 rfl
  have y10 := h2.cell 10 rfl
  have HB := Lib.hid hB
  have HBc := Lib.hid (Below.refl w1.heap.size w1)
  have HK := Lib.hid (show ∀ wx, Below w1.heap.size w1 wx → ((wx.cell? ⟨p, 0, none⟩ = some (.int .i64 e.k) ∧ wx.cell? ⟨p, 1, none⟩ = some (.int .i64 e.i) ∧ wx.cell? ⟨p, 2, none⟩ = some (.int .i64 e.c) ∧ wx.cell? ⟨p, 3, none⟩ = some (.string ⟨e.t.toArray⟩) ∧ wx.cell? ⟨p, 4, none⟩ = some (.int .i64 e.b.k) ∧ wx.cell? ⟨p, 5, none⟩ = some (.int .i64 e.b.i) ∧ wx.cell? ⟨p, 6, none⟩ = some (.int .u64 e.b.b) ∧ wx.cell? ⟨p, 7, none⟩ = some (.string ⟨e.b.t.toArray⟩) ∧ wx.cell? ⟨p, 8, none⟩ = some (.slice bl bn bc) ∧ wx.cell? ⟨p, 9, none⟩ = some (.slice cl cn cc) ∧ wx.cell? ⟨p, 10, none⟩ = some (.slice l n cap)) ∧ (wx.cell? ⟨q, 0, none⟩ = some (.int .i64 f.k) ∧ wx.cell? ⟨q, 1, none⟩ = some (.int .i64 f.i) ∧ wx.cell? ⟨q, 2, none⟩ = some (.int .i64 f.c) ∧ wx.cell? ⟨q, 3, none⟩ = some (.string ⟨f.t.toArray⟩) ∧ wx.cell? ⟨q, 4, none⟩ = some (.int .i64 f.b.k) ∧ wx.cell? ⟨q, 5, none⟩ = some (.int .i64 f.b.i) ∧ wx.cell? ⟨q, 6, none⟩ = some (.int .u64 f.b.b) ∧ wx.cell? ⟨q, 7, none⟩ = some (.string ⟨f.b.t.toArray⟩) ∧ wx.cell? ⟨q, 8, none⟩ = some (.slice bl' bn' bc') ∧ wx.cell? ⟨q, 9, none⟩ = some (.slice cl' cn' cc') ∧ wx.cell? ⟨q, 10, none⟩ = some (.slice l' n' cap'))) from fun wx hx => by
    have a := h1.below hx
    have c := h2.below hx
    exact ⟨⟨a.cell 0 rfl, a.cell 1 rfl, a.cell 2 rfl, a.cell 3 rfl, a.cell 4 rfl, a.cell 5 rfl, a.cell 6 rfl, a.cell 7 rfl, a.cell 8 rfl, a.cell 9 rfl, a.cell 10 rfl⟩, ⟨c.cell 0 rfl, c.cell 1 rfl, c.cell 2 rfl, c.cell 3 rfl, c.cell 4 rfl, c.cell 5 rfl, c.cell 6 rfl, c.cell 7 rfl, c.cell 8 rfl, c.cell 9 rfl, c.cell 10 rfl⟩⟩)
  generalize ervalidM e = v1 at *
  generalize ervalidM f = v2 at *
  clear h1 h2 hB hp hq
  have HOK := Lib.hid hok
  clear hok
  cases v1
  · go_wp2_with (first
      | (go_at_call 10; (with_reducible refine (HV1.out _ HB.out).mono ?_); rintro e2 w2 ⟨rfl, hB⟩; have HB2 := Lib.hid (bel_tr HB.out hB); have HB2c := Lib.hid (bel_tr HBc.out hB); clear hB)
      | (go_at_call 11; (with_reducible refine (HW.out _).mono ?_); rintro e3 w3 ⟨rfl, hB⟩; have HB3 := Lib.hid (bel_tr HB2.out hB); have HB3c := Lib.hid (bel_tr HB2c.out hB); clear hB))
    go_ret
    exact ⟨rfl, HB3.out⟩
  cases v2
  · go_wp2_with (first
      | (go_at_call 10; (with_reducible refine (HV1.out _ HB.out).mono ?_); rintro e2 w2 ⟨rfl, hB⟩; have HB2 := Lib.hid (bel_tr HB.out hB); have HB2c := Lib.hid (bel_tr HBc.out hB); replace x0 := cellAt hB x0; replace x1 := cellAt hB x1; replace x2 := cellAt hB x2; replace x3 := cellAt hB x3; replace x4 := cellAt hB x4; replace x5 := cellAt hB x5; replace x6 := cellAt hB x6; replace x7 := cellAt hB x7; replace x8 := cellAt hB x8; replace x9 := cellAt hB x9; replace x10 := cellAt hB x10; replace y0 := cellAt hB y0; replace y1 := cellAt hB y1; replace y2 := cellAt hB y2; replace y3 := cellAt hB y3; replace y4 := cellAt hB y4; replace y5 := cellAt hB y5; replace y6 := cellAt hB y6; replace y7 := cellAt hB y7; replace y8 := cellAt hB y8; replace y9 := cellAt hB y9; replace y10 := cellAt hB y10; clear hB)
      | (go_at_call 10; (with_reducible refine (HV2.out _ HB2.out).mono ?_); rintro e3 w3 ⟨rfl, hB⟩; have HB3 := Lib.hid (bel_tr HB2.out hB); have HB3c := Lib.hid (bel_tr HB2c.out hB); replace x0 := cellAt hB x0; replace x1 := cellAt hB x1; replace x2 := cellAt hB x2; replace x3 := cellAt hB x3; replace x4 := cellAt hB x4; replace x5 := cellAt hB x5; replace x6 := cellAt hB x6; replace x7 := cellAt hB x7; replace x8 := cellAt hB x8; replace x9 := cellAt hB x9; replace x10 := cellAt hB x10; replace y0 := cellAt hB y0; replace y1 := cellAt hB y1; replace y2 := cellAt hB y2; replace y3 := cellAt hB y3; replace y4 := cellAt hB y4; replace y5 := cellAt hB y5; replace y6 := cellAt hB y6; replace y7 := cellAt hB y7; replace y8 := cellAt hB y8; replace y9 := cellAt hB y9; replace y10 := cellAt hB y10; clear hB)
      | (go_at_call 11; (with_reducible refine (HW.out _).mono ?_); rintro e4 w4 ⟨rfl, hB⟩; have HB4 := Lib.hid (bel_tr HB3.out hB); have HB4c := Lib.hid (bel_tr HB3c.out hB); clear hB))
    go_ret
    exact ⟨rfl, HB4.out⟩
  obtain ⟨h12, h13, h14, h15, h16, h17⟩ := HOK.out rfl rfl
  have H12 := Lib.hid h12
  have H13 := Lib.hid h13
  have H14 := Lib.hid h14
  have H15 := Lib.hid h15
  have H16 := Lib.hid h16
  have H17 := Lib.hid h17
  clear h12 h13 h14 h15 h16 h17 HOK
  go_wp2_with (first
    | (go_at_call 10; (with_reducible refine (HV1.out _ HB.out).mono ?_); rintro e2 w2 ⟨rfl, hB⟩; have HB2 := Lib.hid (bel_tr HB.out hB); have HB2c := Lib.hid (bel_tr HBc.out hB); replace x0 := cellAt hB x0; replace x1 := cellAt hB x1; replace x2 := cellAt hB x2; replace x3 := cellAt hB x3; replace x4 := cellAt hB x4; replace x5 := cellAt hB x5; replace x6 := cellAt hB x6; replace x7 := cellAt hB x7; replace x8 := cellAt hB x8; replace x9 := cellAt hB x9; replace x10 := cellAt hB x10; replace y0 := cellAt hB y0; replace y1 := cellAt hB y1; replace y2 := cellAt hB y2; replace y3 := cellAt hB y3; replace y4 := cellAt hB y4; replace y5 := cellAt hB y5; replace y6 := cellAt hB y6; replace y7 := cellAt hB y7; replace y8 := cellAt hB y8; replace y9 := cellAt hB y9; replace y10 := cellAt hB y10; clear hB)
    | (go_at_call 10; (with_reducible refine (HV2.out _ HB2.out).mono ?_); rintro e3 w3 ⟨rfl, hB⟩; have HB3 := Lib.hid (bel_tr HB2.out hB); have HB3c := Lib.hid (bel_tr HB2c.out hB); replace x0 := cellAt hB x0; replace x1 := cellAt hB x1; replace x2 := cellAt hB x2; replace x3 := cellAt hB x3; replace x4 := cellAt hB x4; replace x5 := cellAt hB x5; replace x6 := cellAt hB x6; replace x7 := cellAt hB x7; replace x8 := cellAt hB x8; replace x9 := cellAt hB x9; replace x10 := cellAt hB x10; replace y0 := cellAt hB y0; replace y1 := cellAt hB y1; replace y2 := cellAt hB y2; replace y3 := cellAt hB y3; replace y4 := cellAt hB y4; replace y5 := cellAt hB y5; replace y6 := cellAt hB y6; replace y7 := cellAt hB y7; replace y8 := cellAt hB y8; replace y9 := cellAt hB y9; replace y10 := cellAt hB y10; clear hB)
    | (go_at_call 12; (with_reducible refine (H12.out _ HB3.out).mono ?_); rintro e4 w4 ⟨rfl, hB⟩; have HB4 := Lib.hid (bel_tr HB3.out hB); have HB4c := Lib.hid (bel_tr HB3c.out hB); replace x0 := cellAt hB x0; replace x1 := cellAt hB x1; replace x2 := cellAt hB x2; replace x3 := cellAt hB x3; replace x4 := cellAt hB x4; replace x5 := cellAt hB x5; replace x6 := cellAt hB x6; replace x7 := cellAt hB x7; replace x8 := cellAt hB x8; replace x9 := cellAt hB x9; replace x10 := cellAt hB x10; replace y0 := cellAt hB y0; replace y1 := cellAt hB y1; replace y2 := cellAt hB y2; replace y3 := cellAt hB y3; replace y4 := cellAt hB y4; replace y5 := cellAt hB y5; replace y6 := cellAt hB y6; replace y7 := cellAt hB y7; replace y8 := cellAt hB y8; replace y9 := cellAt hB y9; replace y10 := cellAt hB y10; clear hB)
    | (go_at_call 13; (with_reducible refine (H13.out _ HB4.out).mono ?_); rintro e5 w5 ⟨rfl, hB⟩; have HB5 := Lib.hid (bel_tr HB4.out hB); have HB5c := Lib.hid (bel_tr HB4c.out hB); replace x0 := cellAt hB x0; replace x1 := cellAt hB x1; replace x2 := cellAt hB x2; replace x3 := cellAt hB x3; replace x4 := cellAt hB x4; replace x5 := cellAt hB x5; replace x6 := cellAt hB x6; replace x7 := cellAt hB x7; replace x8 := cellAt hB x8; replace x9 := cellAt hB x9; replace x10 := cellAt hB x10; replace y0 := cellAt hB y0; replace y1 := cellAt hB y1; replace y2 := cellAt hB y2; replace y3 := cellAt hB y3; replace y4 := cellAt hB y4; replace y5 := cellAt hB y5; replace y6 := cellAt hB y6; replace y7 := cellAt hB y7; replace y8 := cellAt hB y8; replace y9 := cellAt hB y9; replace y10 := cellAt hB y10; clear hB))
  clear HV1 HV2 H12 H13
  go_region_held3 (fun wx : World => (wx.cell? ⟨p, 0, none⟩ = some (.int .i64 e.k) ∧ wx.cell? ⟨p, 1, none⟩ = some (.int .i64 e.i) ∧ wx.cell? ⟨p, 2, none⟩ = some (.int .i64 e.c) ∧ wx.cell? ⟨p, 3, none⟩ = some (.string ⟨e.t.toArray⟩) ∧ wx.cell? ⟨p, 4, none⟩ = some (.int .i64 e.b.k) ∧ wx.cell? ⟨p, 5, none⟩ = some (.int .i64 e.b.i) ∧ wx.cell? ⟨p, 6, none⟩ = some (.int .u64 e.b.b) ∧ wx.cell? ⟨p, 7, none⟩ = some (.string ⟨e.b.t.toArray⟩) ∧ wx.cell? ⟨p, 8, none⟩ = some (.slice bl bn bc) ∧ wx.cell? ⟨p, 9, none⟩ = some (.slice cl cn cc) ∧ wx.cell? ⟨p, 10, none⟩ = some (.slice l n cap)) ∧ (wx.cell? ⟨q, 0, none⟩ = some (.int .i64 f.k) ∧ wx.cell? ⟨q, 1, none⟩ = some (.int .i64 f.i) ∧ wx.cell? ⟨q, 2, none⟩ = some (.int .i64 f.c) ∧ wx.cell? ⟨q, 3, none⟩ = some (.string ⟨f.t.toArray⟩) ∧ wx.cell? ⟨q, 4, none⟩ = some (.int .i64 f.b.k) ∧ wx.cell? ⟨q, 5, none⟩ = some (.int .i64 f.b.i) ∧ wx.cell? ⟨q, 6, none⟩ = some (.int .u64 f.b.b) ∧ wx.cell? ⟨q, 7, none⟩ = some (.string ⟨f.b.t.toArray⟩) ∧ wx.cell? ⟨q, 8, none⟩ = some (.slice bl' bn' bc') ∧ wx.cell? ⟨q, 9, none⟩ = some (.slice cl' cn' cc') ∧ wx.cell? ⟨q, 10, none⟩ = some (.slice l' n' cap')))
    (first | exact HK.out _ HB5c.out | exact HK.out _ (bel_dr HB5c.out) | exact HK.out _ HB6c.out | exact HK.out _ HB7c.out)
    (first
      | (go_simp; go_at_call 14; (with_reducible refine (H14.out _ (bel_dr HB5.out)).mono ?_); rintro e6 w6 ⟨rfl, hB⟩; have HB6 := Lib.hid (bel_tr (bel_dr HB5.out) hB); have HB6c := Lib.hid (bel_tr (bel_dr HB5c.out) hB); clear hB)
      | (go_simp; go_at_call 15; (with_reducible refine (H15.out _ HB6.out).mono ?_); rintro e7 w7 ⟨rfl, hB⟩; have HB7 := Lib.hid (bel_tr HB6.out hB); have HB7c := Lib.hid (bel_tr HB6c.out hB); clear hB))
  all_goals
    clear x0 x1 x2 x3 x4 x5 x6 x7 x8 x9 x10 y0 y1 y2 y3 y4 y5 y6 y7 y8 y9 y10
    obtain ⟨⟨x0, x1, x2, x3, x4, x5, x6, x7, x8, x9, x10⟩, ⟨y0, y1, y2, y3, y4, y5, y6, y7, y8, y9, y10⟩⟩ := HK.out _ HB7c.out
    clear H14 H15
    go_wp2_with (first
      | (go_at_call 16; (with_reducible refine (H16.out _ HB7.out).mono ?_); rintro e8 w8 ⟨rfl, hB⟩; have HB8 := Lib.hid (bel_tr HB7.out hB); have HB8c := Lib.hid (bel_tr HB7c.out hB); replace x0 := cellAt hB x0; replace x1 := cellAt hB x1; replace x2 := cellAt hB x2; replace x3 := cellAt hB x3; replace x4 := cellAt hB x4; replace x5 := cellAt hB x5; replace x6 := cellAt hB x6; replace x7 := cellAt hB x7; replace x8 := cellAt hB x8; replace x9 := cellAt hB x9; replace x10 := cellAt hB x10; replace y0 := cellAt hB y0; replace y1 := cellAt hB y1; replace y2 := cellAt hB y2; replace y3 := cellAt hB y3; replace y4 := cellAt hB y4; replace y5 := cellAt hB y5; replace y6 := cellAt hB y6; replace y7 := cellAt hB y7; replace y8 := cellAt hB y8; replace y9 := cellAt hB y9; replace y10 := cellAt hB y10; clear hB)
      | (go_at_call 17; (with_reducible refine (H17.out _ HB8.out).mono ?_); rintro e9 w9 ⟨rfl, hB⟩; have HB9 := Lib.hid (bel_tr HB8.out hB); have HB9c := Lib.hid (bel_tr HB8c.out hB); replace x0 := cellAt hB x0; replace x1 := cellAt hB x1; replace x2 := cellAt hB x2; replace x3 := cellAt hB x3; replace x4 := cellAt hB x4; replace x5 := cellAt hB x5; replace x6 := cellAt hB x6; replace x7 := cellAt hB x7; replace x8 := cellAt hB x8; replace x9 := cellAt hB x9; replace x10 := cellAt hB x10; replace y0 := cellAt hB y0; replace y1 := cellAt hB y1; replace y2 := cellAt hB y2; replace y3 := cellAt hB y3; replace y4 := cellAt hB y4; replace y5 := cellAt hB y5; replace y6 := cellAt hB y6; replace y7 := cellAt hB y7; replace y8 := cellAt hB y8; replace y9 := cellAt hB y9; replace y10 := cellAt hB y10; clear hB)
      | (go_at_call 11; (with_reducible refine (HW.out _).mono ?_); rintro e10 w10 ⟨rfl, hB⟩; have HB10 := Lib.hid (bel_tr HB9.out hB); have HB10c := Lib.hid (bel_tr HB9c.out hB); clear hB))
    go_ret
    exact ⟨rfl, HB10.out⟩
end Go.Proofs.YtbldidiibkcelaaGreatDoor
