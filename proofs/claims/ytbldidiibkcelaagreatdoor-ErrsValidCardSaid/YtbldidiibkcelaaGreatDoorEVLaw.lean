/-
  ErrsValid (walk): the law. Not a statement of the seat.
-/
import Derived.Test.YtbldidiibkcelaaGreatDoorEA8
import Derived.Test.YtbldidiibkcelaaGreatDoorERValid
namespace Go.Proofs.YtbldidiibkcelaaGreatDoor
open Go.RowKit

set_option maxRecDepth 100000 in
set_option maxHeartbeats 8000000 in
theorem errsValidT {S : Nat → Prop} {e : Et} {bl : Option Addr} {bn bc : Nat} {cl : Option Addr} {cn cc : Nat} {l : Option Addr} {n cap : Nat} {w : World} (hE : ErAt S w e bl bn bc cl cn cc l n cap)
    (hS : ∀ x, S x → x < w.heap.size) (hcs : e.cs.length ≤ 140737488355328) (hks : e.l.small) (k m : Int) :
    Calls Tryz.prog 4 #[vE e.k e.i e.c e.t e.b bl bn bc cl cn cc l n cap, .int .i64 k, .int .i64 m] w (fun r w' => r = .returned (.bool true) ∧ Below w.heap.size w w') := by
  have hA := ebox_blk w e.k e.i e.c e.t e.b bl bn bc cl cn cc l n cap
  have hB := ebox_below w e.k e.i e.c e.t e.b bl bn bc cl cn cc l n cap
  have heq := evalid_eq e
  have HC := Lib.hid (fun (wx : World) (hx : Below w.heap.size w wx) => show Calls Tryz.prog 18 #[vE e.k e.i e.c e.t e.b bl bn bc cl cn cc l n cap] wx (fun r w' => r = .returned (.bool (evalidM e)) ∧ Below wx.heap.size wx w') from
    evalidN (hE.same (fun x _ hlt => hx.block x hlt) (fun x hx _ => hx)) (fun x hx' => Nat.lt_of_lt_of_le (hS x hx') hx.size) hcs hks)
  have HR := Lib.hid (fun (wx : World) (hx : Below w.heap.size w wx) => show Calls Tryz.prog 10 #[vE e.k e.i e.c e.t e.b bl bn bc cl cn cc l n cap] wx (fun r w' => r = .returned (.bool (evalidM e)) ∧ Below wx.heap.size wx w') from by
    rw [heq]
    exact ervalidN (hE.same (fun x _ hlt => hx.block x hlt) (fun x hx _ => hx)) (fun x hx' => Nat.lt_of_lt_of_le (hS x hx') hx.size) hcs hks)
  have HH := Lib.hid (fun (wx : World) => ehasN k m wx)
  have HRH := Lib.hid (fun (wx : World) => rhasN k m wx)
  have HW := Lib.hid (fun (wx : World) => awakeT wx)
  unfold vE at HC HR ⊢
  go_enter Tryz.func4, Tryz.ntmps4
  go_upto_region 1 with (fail)
  change Code.wp _ _ _ _ (ebox w e.k e.i e.c e.t e.b bl bn bc cl cn cc l n cap)
  generalize ebox w e.k e.i e.c e.t e.b bl bn bc cl cn cc l n cap = w1 at *
  obtain ⟨p, hp⟩ : ∃ x, x = w.heap.size := ⟨_, rfl⟩
  rw [← hp] at hA
  rw [← hp]
  have HK := Lib.hid (show ∀ wx, Below w1.heap.size w1 wx → (wx.cell? ⟨p, 0, none⟩ = some (.int .i64 e.k) ∧ wx.cell? ⟨p, 1, none⟩ = some (.int .i64 e.i) ∧ wx.cell? ⟨p, 2, none⟩ = some (.int .i64 e.c) ∧ wx.cell? ⟨p, 3, none⟩ = some (.string ⟨e.t.toArray⟩) ∧ wx.cell? ⟨p, 4, none⟩ = some (.int .i64 e.b.k) ∧ wx.cell? ⟨p, 5, none⟩ = some (.int .i64 e.b.i) ∧ wx.cell? ⟨p, 6, none⟩ = some (.int .u64 e.b.b) ∧ wx.cell? ⟨p, 7, none⟩ = some (.string ⟨e.b.t.toArray⟩) ∧ wx.cell? ⟨p, 8, none⟩ = some (.slice bl bn bc) ∧ wx.cell? ⟨p, 9, none⟩ = some (.slice cl cn cc) ∧ wx.cell? ⟨p, 10, none⟩ = some (.slice l n cap)) from fun wx hx => by
    have a := hA.below hx
    exact ⟨a.cell 0 rfl, a.cell 1 rfl, a.cell 2 rfl, a.cell 3 rfl, a.cell 4 rfl, a.cell 5 rfl, a.cell 6 rfl, a.cell 7 rfl, a.cell 8 rfl, a.cell 9 rfl, a.cell 10 rfl⟩)
  have HB := Lib.hid hB
  generalize evalidM e = v at *
  generalize hasK k m = h at *
  clear hA hB heq hE hS hcs hks hp
  cases v <;> cases h
  · go_region_held3 (fun wx : World => wx.cell? ⟨p, 0, none⟩ = some (.int .i64 e.k) ∧ wx.cell? ⟨p, 1, none⟩ = some (.int .i64 e.i) ∧ wx.cell? ⟨p, 2, none⟩ = some (.int .i64 e.c) ∧ wx.cell? ⟨p, 3, none⟩ = some (.string ⟨e.t.toArray⟩) ∧ wx.cell? ⟨p, 4, none⟩ = some (.int .i64 e.b.k) ∧ wx.cell? ⟨p, 5, none⟩ = some (.int .i64 e.b.i) ∧ wx.cell? ⟨p, 6, none⟩ = some (.int .u64 e.b.b) ∧ wx.cell? ⟨p, 7, none⟩ = some (.string ⟨e.b.t.toArray⟩) ∧ wx.cell? ⟨p, 8, none⟩ = some (.slice bl bn bc) ∧ wx.cell? ⟨p, 9, none⟩ = some (.slice cl cn cc) ∧ wx.cell? ⟨p, 10, none⟩ = some (.slice l n cap))
      (first | exact HK.out _ (Below.refl _ _) | exact HK.out _ (Below.refl _ _).drew | exact HK.out _ HB1.out | exact HK.out _ HB2.out | exact HK.out _ HB3.out | exact HK.out _ HB4.out)
      (first
        | (go_simp; go_at_call 18; (with_reducible refine (HC.out _ (HB.out.trans ((Below.refl _ _).drew.mono HB.out.size))).mono ?_); rintro eA wA ⟨rfl, hb⟩; have HB1 := Lib.hid ((Below.refl w1.heap.size w1).drew.trans hb); clear hb)
        | (go_simp; go_at_call 10; (with_reducible refine (HR.out _ (HB.out.trans (HB1.out.mono HB.out.size))).mono ?_); rintro eB wB ⟨rfl, hb⟩; have HB2 := Lib.hid (HB1.out.trans (hb.mono HB1.out.size)); clear hb)
        | (go_simp; go_at_call 19; (with_reducible refine (HH.out _).mono ?_); rintro eC wC ⟨rfl, hb⟩; have HB3 := Lib.hid (HB2.out.trans (hb.mono HB2.out.size)); clear hb)
        | (go_simp; go_at_call 20; (with_reducible refine (HRH.out _).mono ?_); rintro eD wD ⟨rfl, rfl⟩)
        | (go_simp; go_at_call 11; (with_reducible refine (HW.out _).mono ?_); rintro eE wE ⟨rfl, hb⟩; have HB4 := Lib.hid (HB3.out.trans (hb.mono HB3.out.size)); clear hb))
    all_goals
      go_wp2_with fail
      go_ret
      exact ⟨rfl, HB.out.trans (HB4.out.mono HB.out.size)⟩
  · go_region_held3 (fun wx : World => wx.cell? ⟨p, 0, none⟩ = some (.int .i64 e.k) ∧ wx.cell? ⟨p, 1, none⟩ = some (.int .i64 e.i) ∧ wx.cell? ⟨p, 2, none⟩ = some (.int .i64 e.c) ∧ wx.cell? ⟨p, 3, none⟩ = some (.string ⟨e.t.toArray⟩) ∧ wx.cell? ⟨p, 4, none⟩ = some (.int .i64 e.b.k) ∧ wx.cell? ⟨p, 5, none⟩ = some (.int .i64 e.b.i) ∧ wx.cell? ⟨p, 6, none⟩ = some (.int .u64 e.b.b) ∧ wx.cell? ⟨p, 7, none⟩ = some (.string ⟨e.b.t.toArray⟩) ∧ wx.cell? ⟨p, 8, none⟩ = some (.slice bl bn bc) ∧ wx.cell? ⟨p, 9, none⟩ = some (.slice cl cn cc) ∧ wx.cell? ⟨p, 10, none⟩ = some (.slice l n cap))
      (first | exact HK.out _ (Below.refl _ _) | exact HK.out _ (Below.refl _ _).drew | exact HK.out _ HB1.out | exact HK.out _ HB2.out | exact HK.out _ HB3.out | exact HK.out _ HB4.out)
      (first
        | (go_simp; go_at_call 18; (with_reducible refine (HC.out _ (HB.out.trans ((Below.refl _ _).drew.mono HB.out.size))).mono ?_); rintro eA wA ⟨rfl, hb⟩; have HB1 := Lib.hid ((Below.refl w1.heap.size w1).drew.trans hb); clear hb)
        | (go_simp; go_at_call 10; (with_reducible refine (HR.out _ (HB.out.trans (HB1.out.mono HB.out.size))).mono ?_); rintro eB wB ⟨rfl, hb⟩; have HB2 := Lib.hid (HB1.out.trans (hb.mono HB1.out.size)); clear hb)
        | (go_simp; go_at_call 19; (with_reducible refine (HH.out _).mono ?_); rintro eC wC ⟨rfl, hb⟩; have HB3 := Lib.hid (HB2.out.trans (hb.mono HB2.out.size)); clear hb)
        | (go_simp; go_at_call 20; (with_reducible refine (HRH.out _).mono ?_); rintro eD wD ⟨rfl, rfl⟩)
        | (go_simp; go_at_call 11; (with_reducible refine (HW.out _).mono ?_); rintro eE wE ⟨rfl, hb⟩; have HB4 := Lib.hid (HB3.out.trans (hb.mono HB3.out.size)); clear hb))
    all_goals
      go_wp2_with fail
      go_ret
      exact ⟨rfl, HB.out.trans (HB4.out.mono HB.out.size)⟩
  · go_region_held3 (fun wx : World => wx.cell? ⟨p, 0, none⟩ = some (.int .i64 e.k) ∧ wx.cell? ⟨p, 1, none⟩ = some (.int .i64 e.i) ∧ wx.cell? ⟨p, 2, none⟩ = some (.int .i64 e.c) ∧ wx.cell? ⟨p, 3, none⟩ = some (.string ⟨e.t.toArray⟩) ∧ wx.cell? ⟨p, 4, none⟩ = some (.int .i64 e.b.k) ∧ wx.cell? ⟨p, 5, none⟩ = some (.int .i64 e.b.i) ∧ wx.cell? ⟨p, 6, none⟩ = some (.int .u64 e.b.b) ∧ wx.cell? ⟨p, 7, none⟩ = some (.string ⟨e.b.t.toArray⟩) ∧ wx.cell? ⟨p, 8, none⟩ = some (.slice bl bn bc) ∧ wx.cell? ⟨p, 9, none⟩ = some (.slice cl cn cc) ∧ wx.cell? ⟨p, 10, none⟩ = some (.slice l n cap))
      (first | exact HK.out _ (Below.refl _ _) | exact HK.out _ (Below.refl _ _).drew | exact HK.out _ HB1.out | exact HK.out _ HB2.out | exact HK.out _ HB3.out | exact HK.out _ HB4.out)
      (first
        | (go_simp; go_at_call 18; (with_reducible refine (HC.out _ (HB.out.trans ((Below.refl _ _).drew.mono HB.out.size))).mono ?_); rintro eA wA ⟨rfl, hb⟩; have HB1 := Lib.hid ((Below.refl w1.heap.size w1).drew.trans hb); clear hb)
        | (go_simp; go_at_call 10; (with_reducible refine (HR.out _ (HB.out.trans (HB1.out.mono HB.out.size))).mono ?_); rintro eB wB ⟨rfl, hb⟩; have HB2 := Lib.hid (HB1.out.trans (hb.mono HB1.out.size)); clear hb)
        | (go_simp; go_at_call 19; (with_reducible refine (HH.out _).mono ?_); rintro eC wC ⟨rfl, hb⟩; have HB3 := Lib.hid (HB2.out.trans (hb.mono HB2.out.size)); clear hb)
        | (go_simp; go_at_call 20; (with_reducible refine (HRH.out _).mono ?_); rintro eD wD ⟨rfl, rfl⟩)
        | (go_simp; go_at_call 11; (with_reducible refine (HW.out _).mono ?_); rintro eE wE ⟨rfl, hb⟩; have HB4 := Lib.hid (HB3.out.trans (hb.mono HB3.out.size)); clear hb))
    all_goals
      go_wp2_with fail
      go_ret
      exact ⟨rfl, HB.out.trans (HB4.out.mono HB.out.size)⟩
  · go_region_held3 (fun wx : World => wx.cell? ⟨p, 0, none⟩ = some (.int .i64 e.k) ∧ wx.cell? ⟨p, 1, none⟩ = some (.int .i64 e.i) ∧ wx.cell? ⟨p, 2, none⟩ = some (.int .i64 e.c) ∧ wx.cell? ⟨p, 3, none⟩ = some (.string ⟨e.t.toArray⟩) ∧ wx.cell? ⟨p, 4, none⟩ = some (.int .i64 e.b.k) ∧ wx.cell? ⟨p, 5, none⟩ = some (.int .i64 e.b.i) ∧ wx.cell? ⟨p, 6, none⟩ = some (.int .u64 e.b.b) ∧ wx.cell? ⟨p, 7, none⟩ = some (.string ⟨e.b.t.toArray⟩) ∧ wx.cell? ⟨p, 8, none⟩ = some (.slice bl bn bc) ∧ wx.cell? ⟨p, 9, none⟩ = some (.slice cl cn cc) ∧ wx.cell? ⟨p, 10, none⟩ = some (.slice l n cap))
      (first | exact HK.out _ (Below.refl _ _) | exact HK.out _ (Below.refl _ _).drew | exact HK.out _ HB1.out | exact HK.out _ HB2.out | exact HK.out _ HB3.out | exact HK.out _ HB4.out)
      (first
        | (go_simp; go_at_call 18; (with_reducible refine (HC.out _ (HB.out.trans ((Below.refl _ _).drew.mono HB.out.size))).mono ?_); rintro eA wA ⟨rfl, hb⟩; have HB1 := Lib.hid ((Below.refl w1.heap.size w1).drew.trans hb); clear hb)
        | (go_simp; go_at_call 10; (with_reducible refine (HR.out _ (HB.out.trans (HB1.out.mono HB.out.size))).mono ?_); rintro eB wB ⟨rfl, hb⟩; have HB2 := Lib.hid (HB1.out.trans (hb.mono HB1.out.size)); clear hb)
        | (go_simp; go_at_call 19; (with_reducible refine (HH.out _).mono ?_); rintro eC wC ⟨rfl, hb⟩; have HB3 := Lib.hid (HB2.out.trans (hb.mono HB2.out.size)); clear hb)
        | (go_simp; go_at_call 20; (with_reducible refine (HRH.out _).mono ?_); rintro eD wD ⟨rfl, rfl⟩)
        | (go_simp; go_at_call 11; (with_reducible refine (HW.out _).mono ?_); rintro eE wE ⟨rfl, hb⟩; have HB4 := Lib.hid (HB3.out.trans (hb.mono HB3.out.size)); clear hb))
    all_goals
      go_wp2_with fail
      go_ret
      exact ⟨rfl, HB.out.trans (HB4.out.mono HB.out.size)⟩
end Go.Proofs.YtbldidiibkcelaaGreatDoor
