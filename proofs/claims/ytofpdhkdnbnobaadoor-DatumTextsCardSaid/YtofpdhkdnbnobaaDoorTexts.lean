/-
  DatumTexts (walk). Not a statement of the seat.
-/
import Derived.Test.YtofpdhkdnbnobaaDoorTwo
namespace Go.Proofs.YtofpdhkdnbnobaaDoor
open Go.RowKit

set_option maxRecDepth 100000 in
set_option maxHeartbeats 8000000 in
theorem textsT {S : Nat → Prop} {a b : Dt} {la lb : Option Addr} {na ca nb cb : Nat} {w : World} (hA : Ar S w a la na ca) (hB : Ar S w b lb nb cb) (hL : Lb w) (hpa : a.fo.plain) (hpb : b.fo.plain) :
    Calls Tryd.prog 6 #[av a la na ca, av b lb nb cb] w (fun e w' => e = .returned (.bool true) ∧ Below w.heap.size w w') := by
  unfold av
  obtain ⟨HX, HY, HBW⟩ := two_boxes w a b la lb na ca nb cb
  have HA := Lib.hid hA
  have HB := Lib.hid hB
  have HL := Lib.hid hL
  have HPA := Lib.hid hpa
  have HPB := Lib.hid hpb
  have hVA := fun (wx : World) (hx : Below w.heap.size w wx) => (HA.out.below hx).valid
  have hVB := fun (wx : World) (hx : Below w.heap.size w wx) => (HB.out.below hx).valid
  have HAW := Lib.hid (fun (wx : World) (hx : Below w.heap.size w wx) => awakeT (HL.out.below hx HL.out.size))
  have hoa := rvalid_ok (d := a)
  have hob := rvalid_ok (d := b)
  generalize rvalidM a = va at *
  generalize rvalidM b = vb at *
  clear hA hB hL hpa hpb
  go_enter Tryd.func6, Tryd.ntmps6
  go_upto_region 1 with (fail)
  change Code.wp _ _ _ _ (twoW w a b la lb na ca nb cb)
  generalize twoW w a b la lb na ca nb cb = w1 at *
  obtain ⟨p, hp⟩ : ∃ p, p = w.heap.size := ⟨_, rfl⟩
  obtain ⟨q, hq⟩ : ∃ q, q = w.heap.size + 1 := ⟨_, rfl⟩
  rw [← hp] at HX
  rw [← hq] at HY
  rw [← hq, ← hp]
  have hKEEP := keep_of HX HY
  have x0 := HX.cell 0 rfl
  have x1 := HX.cell 1 rfl
  have x2 := HX.cell 2 rfl
  have x3 := HX.cell 3 rfl
  have x4 := HX.cell 4 rfl
  have y0 := HY.cell 0 rfl
  have y1 := HY.cell 1 rfl
  have y2 := HY.cell 2 rfl
  have y3 := HY.cell 3 rfl
  have y4 := HY.cell 4 rfl
  have HKEEP := Lib.hid hKEEP
  have HBW := Lib.hid HBW
  have HC1 := Lib.hid (hVA w1 HBW.out)
  have HVB := Lib.hid hVB
  clear HX HY hKEEP hVA hVB hp hq
  cases va
  · clear hoa hob
    go_wp2_with (first
      | (go_at_call 12; (with_reducible refine HC1.out.mono ?_); rintro e2 w2 ⟨rfl, hB⟩
         have HB2 := Lib.hid (HBW.out.trans (hB.mono HBW.out.size))
         have HC2 := Lib.hid (HAW.out w2 HB2.out)
         clear hB)
      | (go_at_call 13; (with_reducible refine HC2.out.mono ?_); rintro e3 w3 ⟨rfl, hB⟩; have HB3 := Lib.hid (HB2.out.trans (hB.mono HB2.out.size)); clear hB))
    go_ret
    exact ⟨rfl, HB3.out⟩
  cases vb
  · clear hoa hob
    go_wp2_with (first
      | (go_at_call 12; (with_reducible refine HC1.out.mono ?_); rintro e2 w2 ⟨rfl, hB⟩
         have HB2 := Lib.hid (HBW.out.trans (hB.mono HBW.out.size))
         have HC2 := Lib.hid (HVB.out w2 HB2.out)
         replace x0 := cellAt hB x0; replace x1 := cellAt hB x1; replace x2 := cellAt hB x2; replace x3 := cellAt hB x3; replace x4 := cellAt hB x4; replace y0 := cellAt hB y0; replace y1 := cellAt hB y1; replace y2 := cellAt hB y2; replace y3 := cellAt hB y3; replace y4 := cellAt hB y4
         clear hB)
      | (go_at_call 12; (with_reducible refine HC2.out.mono ?_); rintro e3 w3 ⟨rfl, hB⟩
         have HB3 := Lib.hid (HB2.out.trans (hB.mono HB2.out.size))
         have HC3 := Lib.hid (HAW.out w3 HB3.out)
         clear hB)
      | (go_at_call 13; (with_reducible refine HC3.out.mono ?_); rintro e4 w4 ⟨rfl, hB⟩; have HB4 := Lib.hid (HB3.out.trans (hB.mono HB3.out.size)); clear hB))
    go_ret
    exact ⟨rfl, HB4.out⟩
  replace hoa := hoa rfl
  replace hob := hob rfl
  have hse := same_print hoa HPA.out hob HPB.out (na := na) (nb := nb) HA.out.len HB.out.len
  have HPR := Lib.hid (fun (wx : World) (hx : Below w.heap.size w wx) => (HA.out.below hx).print (HL.out.below hx HL.out.size) HPA.out hoa)
  have HPS := Lib.hid (fun (wx : World) (hx : Below w.heap.size w wx) => (HB.out.below hx).print (HL.out.below hx HL.out.size) HPB.out hob)
  have HSM := Lib.hid (fun (wx : World) (hx : Below w.heap.size w wx) => (HA.out.below hx).same (HB.out.below hx))
  generalize printM a = pa at *
  generalize printM b = pb at *
  generalize (headM a.k a.i a.b a.t na b.k b.i b.b b.t nb && sameM a.l b.l) = sm at *
  clear hoa hob
  go_wp2_with (first
    | (go_at_call 12; (with_reducible refine HC1.out.mono ?_); rintro e2 w2 ⟨rfl, hB⟩
       have HB2 := Lib.hid (HBW.out.trans (hB.mono HBW.out.size))
       have HC2 := Lib.hid (HVB.out w2 HB2.out)
       have HR2 := Lib.hid hB
       replace x0 := cellAt hB x0; replace x1 := cellAt hB x1; replace x2 := cellAt hB x2; replace x3 := cellAt hB x3; replace x4 := cellAt hB x4; replace y0 := cellAt hB y0; replace y1 := cellAt hB y1; replace y2 := cellAt hB y2; replace y3 := cellAt hB y3; replace y4 := cellAt hB y4
       clear hB)
    | (go_at_call 12; (with_reducible refine HC2.out.mono ?_); rintro e3 w3 ⟨rfl, hB⟩
       have HB3 := Lib.hid (HB2.out.trans (hB.mono HB2.out.size))
       have HR3 := Lib.hid (HR2.out.trans (hB.mono HR2.out.size))
       replace x0 := cellAt hB x0; replace x1 := cellAt hB x1; replace x2 := cellAt hB x2; replace x3 := cellAt hB x3; replace x4 := cellAt hB x4; replace y0 := cellAt hB y0; replace y1 := cellAt hB y1; replace y2 := cellAt hB y2; replace y3 := cellAt hB y3; replace y4 := cellAt hB y4
       clear hB))
  have HK3 := Lib.hid (show ∀ wx, Below w3.heap.size w3 wx → (wx.cell? ⟨p, 0, none⟩ = some (.int .i64 a.k) ∧ wx.cell? ⟨p, 1, none⟩ = some (.int .i64 a.i) ∧ wx.cell? ⟨p, 2, none⟩ = some (.int .u64 a.b) ∧ wx.cell? ⟨p, 3, none⟩ = some (.string ⟨a.t.toArray⟩) ∧ wx.cell? ⟨p, 4, none⟩ = some (.slice la na ca)) ∧ (wx.cell? ⟨q, 0, none⟩ = some (.int .i64 b.k) ∧ wx.cell? ⟨q, 1, none⟩ = some (.int .i64 b.i) ∧ wx.cell? ⟨q, 2, none⟩ = some (.int .u64 b.b) ∧ wx.cell? ⟨q, 3, none⟩ = some (.string ⟨b.t.toArray⟩) ∧ wx.cell? ⟨q, 4, none⟩ = some (.slice lb nb cb)) from fun wx hx => HKEEP.out wx (HR3.out.trans (hx.mono HR3.out.size)))
  clear HC1 HC2 HVB HKEEP
  cases sm
  · have hpe : (pa == pb) = false := hse.symm
    clear hse
    go_region_held3 (fun wx : World => (wx.cell? ⟨p, 0, none⟩ = some (.int .i64 a.k) ∧ wx.cell? ⟨p, 1, none⟩ = some (.int .i64 a.i) ∧ wx.cell? ⟨p, 2, none⟩ = some (.int .u64 a.b) ∧ wx.cell? ⟨p, 3, none⟩ = some (.string ⟨a.t.toArray⟩) ∧ wx.cell? ⟨p, 4, none⟩ = some (.slice la na ca)) ∧ (wx.cell? ⟨q, 0, none⟩ = some (.int .i64 b.k) ∧ wx.cell? ⟨q, 1, none⟩ = some (.int .i64 b.i) ∧ wx.cell? ⟨q, 2, none⟩ = some (.int .u64 b.b) ∧ wx.cell? ⟨q, 3, none⟩ = some (.string ⟨b.t.toArray⟩) ∧ wx.cell? ⟨q, 4, none⟩ = some (.slice lb nb cb)))
      (first | exact HK3.out _ (Below.refl _ _) | exact HK3.out _ (Below.refl _ _).drew | exact HK3.out _ HBA.out | exact HK3.out _ HBB.out | exact HK3.out _ HBC.out | exact HK3.out _ HBD.out)
      (first
        | (go_simp; go_at_call 14; (with_reducible refine (HPR.out _ (HB3.out.trans ((Below.refl _ _).drew.mono HB3.out.size))).mono ?_); rintro eA wA ⟨rfl, hbA⟩; have HBA := Lib.hid ((Below.refl w3.heap.size w3).drew.trans hbA); clear hbA)
        | (go_simp; go_at_call 14; (with_reducible refine (HPS.out _ (HB3.out.trans (HBA.out.mono HB3.out.size))).mono ?_); rintro eB wB ⟨rfl, hbB⟩; have HBB := Lib.hid (HBA.out.trans (hbB.mono HBA.out.size)); clear hbB)
        | (go_simp; go_at_call 22; (with_reducible refine (HSM.out _ (HB3.out.trans (HBB.out.mono HB3.out.size))).mono ?_); rintro eC wC ⟨rfl, hbC⟩; have HBC := Lib.hid (HBB.out.trans (hbC.mono HBB.out.size)); clear hbC)
        | (go_simp; go_at_call 13; (with_reducible refine (HAW.out _ (HB3.out.trans (HBC.out.mono HB3.out.size))).mono ?_); rintro eD wD ⟨rfl, hbD⟩; have HBD := Lib.hid (HBC.out.trans (hbD.mono HBC.out.size)); clear hbD))
    all_goals
      go_wp2_with fail
      go_ret
      exact ⟨rfl, HB3.out.trans (HBD.out.mono HB3.out.size)⟩
  · have hpe : (pa == pb) = true := hse.symm
    clear hse
    go_region_held3 (fun wx : World => (wx.cell? ⟨p, 0, none⟩ = some (.int .i64 a.k) ∧ wx.cell? ⟨p, 1, none⟩ = some (.int .i64 a.i) ∧ wx.cell? ⟨p, 2, none⟩ = some (.int .u64 a.b) ∧ wx.cell? ⟨p, 3, none⟩ = some (.string ⟨a.t.toArray⟩) ∧ wx.cell? ⟨p, 4, none⟩ = some (.slice la na ca)) ∧ (wx.cell? ⟨q, 0, none⟩ = some (.int .i64 b.k) ∧ wx.cell? ⟨q, 1, none⟩ = some (.int .i64 b.i) ∧ wx.cell? ⟨q, 2, none⟩ = some (.int .u64 b.b) ∧ wx.cell? ⟨q, 3, none⟩ = some (.string ⟨b.t.toArray⟩) ∧ wx.cell? ⟨q, 4, none⟩ = some (.slice lb nb cb)))
      (first | exact HK3.out _ (Below.refl _ _) | exact HK3.out _ (Below.refl _ _).drew | exact HK3.out _ HBA.out | exact HK3.out _ HBB.out | exact HK3.out _ HBC.out | exact HK3.out _ HBD.out)
      (first
        | (go_simp; go_at_call 14; (with_reducible refine (HPR.out _ (HB3.out.trans ((Below.refl _ _).drew.mono HB3.out.size))).mono ?_); rintro eA wA ⟨rfl, hbA⟩; have HBA := Lib.hid ((Below.refl w3.heap.size w3).drew.trans hbA); clear hbA)
        | (go_simp; go_at_call 14; (with_reducible refine (HPS.out _ (HB3.out.trans (HBA.out.mono HB3.out.size))).mono ?_); rintro eB wB ⟨rfl, hbB⟩; have HBB := Lib.hid (HBA.out.trans (hbB.mono HBA.out.size)); clear hbB)
        | (go_simp; go_at_call 22; (with_reducible refine (HSM.out _ (HB3.out.trans (HBB.out.mono HB3.out.size))).mono ?_); rintro eC wC ⟨rfl, hbC⟩; have HBC := Lib.hid (HBB.out.trans (hbC.mono HBB.out.size)); clear hbC)
        | (go_simp; go_at_call 13; (with_reducible refine (HAW.out _ (HB3.out.trans (HBC.out.mono HB3.out.size))).mono ?_); rintro eD wD ⟨rfl, hbD⟩; have HBD := Lib.hid (HBC.out.trans (hbD.mono HBC.out.size)); clear hbD))
    all_goals
      go_wp2_with fail
      go_ret
      exact ⟨rfl, HB3.out.trans (HBD.out.mono HB3.out.size)⟩
end Go.Proofs.YtofpdhkdnbnobaaDoor
