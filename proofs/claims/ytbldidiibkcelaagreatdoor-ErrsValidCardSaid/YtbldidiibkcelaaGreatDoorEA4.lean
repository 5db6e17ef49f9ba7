/-
  Is's inner closure at awake's errors (walks). Not a statement of the seat.
-/
import Derived.Test.YtbldidiibkcelaaGreatDoorEA3
namespace Go.Proofs.YtbldidiibkcelaaGreatDoor
open Go.RowKit

theorem h102 (v : Value) (w : World) : (Instr.typeAssert (.iface 102 v) 68 72 false).run Tryz.prog w = .ok (.iface 102 v) w := by kernel_rfl
theorem h101 (v : Value) (w : World) : (Instr.typeAssert (.iface 101 v) 68 72 false).run Tryz.prog w = .ok (.iface 101 v) w := by kernel_rfl
set_option maxRecDepth 100000 in
set_option maxHeartbeats 8000000 in
theorem is53W {w : World} {tb fb tt : Nat} {u : Bool} {p b off : Nat} (hW : WAt w p b off) (hT : Blk w tb VP0) (hF : Blk w fb [.bool u]) (ht : tb ≠ fb) (way : Value) :
    Calls Tryz.prog 53 #[IW p, way, .pointer (some ⟨tb, 0, none⟩), .pointer (some ⟨fb, 0, none⟩), .pointer (some ⟨tt, 0, none⟩)] w (fun e w' => e = .returned (.bool true) ∧ Kept (N1 fb) w w' ∧ Blk w' fb [.bool false]) := by
  have HK := Lib.hid (show ∀ wx, Kept (N1 fb) w wx → (wx.cell? ⟨tb, 0, none⟩ = some (.int .i64 1) ∧ wx.cell? ⟨tb, 1, none⟩ = some (.int .i64 0) ∧ wx.cell? ⟨tb, 2, none⟩ = some (.int .i64 5) ∧ wx.cell? ⟨tb, 3, none⟩ = some (.string ⟨#[112]⟩) ∧ wx.cell? ⟨tb, 4, none⟩ = some (.int .i64 0) ∧ wx.cell? ⟨tb, 5, none⟩ = some (.int .i64 0) ∧ wx.cell? ⟨tb, 6, none⟩ = some (.int .u64 0) ∧ wx.cell? ⟨tb, 7, none⟩ = some (.string ⟨#[]⟩) ∧ wx.cell? ⟨tb, 8, none⟩ = some (.slice none 0 0) ∧ wx.cell? ⟨tb, 9, none⟩ = some (.slice none 0 0) ∧ wx.cell? ⟨tb, 10, none⟩ = some (.slice none 0 0)) from fun wx hx => by
    have a := hT.keep hx (fun h => ht h)
    exact ⟨a.cell 0 rfl, a.cell 1 rfl, a.cell 2 rfl, a.cell 3 rfl, a.cell 4 rfl, a.cell 5 rfl, a.cell 6 rfl, a.cell 7 rfl, a.cell 8 rfl, a.cell 9 rfl, a.cell 10 rfl⟩)
  have ha := fun v w => h102 v w
  have hb2 := fun v w => ta102_6 v w
  have hm := fun v w => m102m v w
  have HM := Lib.hid (fun (wx : World) (hx : Below w.heap.size w wx) => made150 (hW.below hx))
  have HE := Lib.hid (fun (l : Option Addr) (wx : World) => equalW (l := l) wx)
  unfold W0 P0 vE Dt.zero at HE
  unfold W0 vE Dt.zero at HM
  clear hW
  have HF := Lib.hid hF
  have HT := Lib.hid (And.intro hT ht)
  clear hT hF ht
  unfold IW
  go_enter Tryz.func53, Tryz.ntmps53
  go_upto_region 1 with fail
  go_region_held3 (fun wx : World => wx.cell? ⟨tb, 0, none⟩ = some (.int .i64 1) ∧ wx.cell? ⟨tb, 1, none⟩ = some (.int .i64 0) ∧ wx.cell? ⟨tb, 2, none⟩ = some (.int .i64 5) ∧ wx.cell? ⟨tb, 3, none⟩ = some (.string ⟨#[112]⟩) ∧ wx.cell? ⟨tb, 4, none⟩ = some (.int .i64 0) ∧ wx.cell? ⟨tb, 5, none⟩ = some (.int .i64 0) ∧ wx.cell? ⟨tb, 6, none⟩ = some (.int .u64 0) ∧ wx.cell? ⟨tb, 7, none⟩ = some (.string ⟨#[]⟩) ∧ wx.cell? ⟨tb, 8, none⟩ = some (.slice none 0 0) ∧ wx.cell? ⟨tb, 9, none⟩ = some (.slice none 0 0) ∧ wx.cell? ⟨tb, 10, none⟩ = some (.slice none 0 0))
    (first | exact HK.out _ (Kept.refl _ _) | exact HK.out _ (Kept.refl _ _).drew | exact HK.out _ (Kept.of' HB2.out) | exact HK.out _ (Kept.of' HB3.out) | exact HK.out _ ((Kept.of' HB3.out).put (p := ⟨fb, 0, none⟩) _ (fun _ => rfl)))
    (first
      | (go_simp; go_at_call 150; (with_reducible refine (HM.out _ (Below.refl _ _).drew).mono ?_); rintro e2 w2 ⟨rfl, hB⟩; have HB2 := Lib.hid ((Below.refl w.heap.size w).drew.trans hB); clear hB)
      | (go_simp; go_at_call 43; (with_reducible refine (HE.out _ _).mono ?_); rintro e3 w3 ⟨rfl, hB⟩; have HB3 := Lib.hid (HB2.out.trans (hB.mono HB2.out.size)); have y0 := (HF.out.below HB3.out).cell 0 rfl; have y1 := (HF.out.below HB3.out).free 0 (by simp); clear hB))
  all_goals
    have hf := (HF.out.below HB3.out).set (j := 0) (.bool false)
    have HF2 := Lib.hid hf
    have z0 := hf.cell 0 rfl
    clear hf
    go_wp2_with fail
    go_ret
    exact ⟨rfl, (Kept.of' HB3.out).put (p := ⟨fb, 0, none⟩) _ (fun _ => rfl), HF2.out⟩
set_option maxRecDepth 100000 in
set_option maxHeartbeats 8000000 in
theorem is53P {w : World} {tb fb tt : Nat} {u : Bool} (hT : Blk w tb VP0) (hF : Blk w fb [.bool u]) (ht : tb ≠ fb) (way : Value) :
    Calls Tryz.prog 53 #[I0, way, .pointer (some ⟨tb, 0, none⟩), .pointer (some ⟨fb, 0, none⟩), .pointer (some ⟨tt, 0, none⟩)] w (fun e w' => e = .returned (.bool false) ∧ Kept (N1 fb) w w' ∧ Blk w' fb [.bool true]) := by
  have HK := Lib.hid (show ∀ wx, Kept (N1 fb) w wx → (wx.cell? ⟨tb, 0, none⟩ = some (.int .i64 1) ∧ wx.cell? ⟨tb, 1, none⟩ = some (.int .i64 0) ∧ wx.cell? ⟨tb, 2, none⟩ = some (.int .i64 5) ∧ wx.cell? ⟨tb, 3, none⟩ = some (.string ⟨#[112]⟩) ∧ wx.cell? ⟨tb, 4, none⟩ = some (.int .i64 0) ∧ wx.cell? ⟨tb, 5, none⟩ = some (.int .i64 0) ∧ wx.cell? ⟨tb, 6, none⟩ = some (.int .u64 0) ∧ wx.cell? ⟨tb, 7, none⟩ = some (.string ⟨#[]⟩) ∧ wx.cell? ⟨tb, 8, none⟩ = some (.slice none 0 0) ∧ wx.cell? ⟨tb, 9, none⟩ = some (.slice none 0 0) ∧ wx.cell? ⟨tb, 10, none⟩ = some (.slice none 0 0)) from fun wx hx => by
    have a := hT.keep hx (fun h => ht h)
    exact ⟨a.cell 0 rfl, a.cell 1 rfl, a.cell 2 rfl, a.cell 3 rfl, a.cell 4 rfl, a.cell 5 rfl, a.cell 6 rfl, a.cell 7 rfl, a.cell 8 rfl, a.cell 9 rfl, a.cell 10 rfl⟩)
  have ha := fun v w => h101 v w
  have hb2 := fun v w => ta101_6 v w
  have hm := fun v w => m101m v w
  have HM := Lib.hid (fun (wx : World) (_hx : Below w.heap.size w wx) => made147 wx)
  have HE := Lib.hid (fun (wx : World) => equalP wx)
  unfold P0 vE Dt.zero at HE HM
  have HF := Lib.hid hF
  have HT := Lib.hid (And.intro hT ht)
  clear hT hF ht
  unfold I0
  go_enter Tryz.func53, Tryz.ntmps53
  go_upto_region 1 with fail
  go_region_held3 (fun wx : World => wx.cell? ⟨tb, 0, none⟩ = some (.int .i64 1) ∧ wx.cell? ⟨tb, 1, none⟩ = some (.int .i64 0) ∧ wx.cell? ⟨tb, 2, none⟩ = some (.int .i64 5) ∧ wx.cell? ⟨tb, 3, none⟩ = some (.string ⟨#[112]⟩) ∧ wx.cell? ⟨tb, 4, none⟩ = some (.int .i64 0) ∧ wx.cell? ⟨tb, 5, none⟩ = some (.int .i64 0) ∧ wx.cell? ⟨tb, 6, none⟩ = some (.int .u64 0) ∧ wx.cell? ⟨tb, 7, none⟩ = some (.string ⟨#[]⟩) ∧ wx.cell? ⟨tb, 8, none⟩ = some (.slice none 0 0) ∧ wx.cell? ⟨tb, 9, none⟩ = some (.slice none 0 0) ∧ wx.cell? ⟨tb, 10, none⟩ = some (.slice none 0 0))
    (first | exact HK.out _ (Kept.refl _ _) | exact HK.out _ (Kept.refl _ _).drew | exact HK.out _ (Kept.of' HB2.out) | exact HK.out _ (Kept.of' HB3.out) | exact HK.out _ ((Kept.of' HB3.out).put (p := ⟨fb, 0, none⟩) _ (fun _ => rfl)))
    (first
      | (go_simp; go_at_call 147; (with_reducible refine (HM.out _ (Below.refl _ _).drew).mono ?_); rintro e2 w2 ⟨rfl, hB⟩; have HB2 := Lib.hid ((Below.refl w.heap.size w).drew.trans hB); clear hB)
      | (go_simp; go_at_call 43; (with_reducible refine (HE.out _).mono ?_); rintro e3 w3 ⟨rfl, hB⟩; have HB3 := Lib.hid (HB2.out.trans (hB.mono HB2.out.size)); have y0 := (HF.out.below HB3.out).cell 0 rfl; have y1 := (HF.out.below HB3.out).free 0 (by simp); clear hB))
  all_goals
    have hf := (HF.out.below HB3.out).set (j := 0) (.bool true)
    have HF2 := Lib.hid hf
    have z0 := hf.cell 0 rfl
    clear hf
    go_wp2_with fail
    go_ret
    exact ⟨rfl, (Kept.of' HB3.out).put (p := ⟨fb, 0, none⟩) _ (fun _ => rfl), HF2.out⟩
end Go.Proofs.YtbldidiibkcelaaGreatDoor
