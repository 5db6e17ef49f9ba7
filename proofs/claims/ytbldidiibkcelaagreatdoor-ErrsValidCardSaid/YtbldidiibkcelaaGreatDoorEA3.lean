/-
  made and equal at awake's errors (walks). Not a statement of the seat.
-/
import Derived.Test.YtbldidiibkcelaaGreatDoorEA2
namespace Go.Proofs.YtbldidiibkcelaaGreatDoor
open Go.RowKit

set_option maxRecDepth 100000 in
set_option maxHeartbeats 4000000 in
theorem made150 {p b off : Nat} {w : World} (hW : WAt w p b off) : Calls Tryz.prog 150 #[.pointer (some ⟨p, 0, none⟩)] w (fun e w' => e = .returned (W0 (some ⟨b, off, none⟩)) ∧ Below w.heap.size w w') := by
  have hA := zbox_blk w
  have hB := zbox_below w
  have hx := hW.1.below hB
  clear hW
  go_enter Tryz.func150, Tryz.ntmps150
  go_upto_region 1 with (fail)
  change Code.wp _ _ _ _ (zbox w)
  generalize zbox w = w1 at *
  have c0 := hA.cell 0 rfl; have c1 := hA.cell 1 rfl; have c2 := hA.cell 2 rfl; have c3 := hA.cell 3 rfl; have c4 := hA.cell 4 rfl; have c5 := hA.cell 5 rfl; have c6 := hA.cell 6 rfl; have c7 := hA.cell 7 rfl; have c8 := hA.cell 8 rfl; have c9 := hA.cell 9 rfl; have c10 := hA.cell 10 rfl
  have x0 := hx.cell 0 rfl; have x1 := hx.cell 1 rfl; have x2 := hx.cell 2 rfl; have x3 := hx.cell 3 rfl; have x4 := hx.cell 4 rfl; have x5 := hx.cell 5 rfl; have x6 := hx.cell 6 rfl; have x7 := hx.cell 7 rfl; have x8 := hx.cell 8 rfl; have x9 := hx.cell 9 rfl; have x10 := hx.cell 10 rfl
  have f0 := hA.free 0 (by simp [Z11]); have f1 := hA.free 1 (by simp [Z11]); have f2 := hA.free 2 (by simp [Z11]); have f3 := hA.free 3 (by simp [Z11]); have f4 := hA.free 4 (by simp [Z11]); have f5 := hA.free 5 (by simp [Z11]); have f6 := hA.free 6 (by simp [Z11]); have f7 := hA.free 7 (by simp [Z11]); have f8 := hA.free 8 (by simp [Z11]); have f9 := hA.free 9 (by simp [Z11]); have f10 := hA.free 10 (by simp [Z11])
  have HA := Lib.hid hA
  have HB := Lib.hid hB
  clear hA hB hx
  go_wp2_with fail
  exact er_fin Tryz.results150 rfl (Nat.le_refl _) HB.out HA.out
set_option maxRecDepth 100000 in
set_option maxHeartbeats 4000000 in
theorem made147 (w : World) : Calls Tryz.prog 147 #[.agg #[.int .i64 5, .string ⟨#[112]⟩]] w (fun e w' => e = .returned P0 ∧ Below w.heap.size w w') := by
  have hP := Blk.new w #[.int .i64 5, .string ⟨#[112]⟩] 101
  have hBP : Below w.heap.size w (w.alloc (.cells #[.int .i64 5, .string ⟨#[112]⟩] 101)) := (Below.refl _ _).alloc (Nat.le_refl _) _
  have hz : (w.alloc (.cells #[.int .i64 5, .string ⟨#[112]⟩] 101)).heap.size = w.heap.size + 1 := by simp
  go_enter Tryz.func147, Tryz.ntmps147
  go_upto_region 1 with (fail)
  change Code.wp _ _ _ _ (zbox (w.alloc (.cells #[.int .i64 5, .string ⟨#[112]⟩] 101)))
  generalize w.alloc (.cells #[.int .i64 5, .string ⟨#[112]⟩] 101) = w0 at *
  have hA := zbox_blk w0
  have hB := zbox_below w0
  have hB2 : Below w.heap.size w (zbox w0) := hBP.trans (hB.mono hBP.size)
  have hx := hP.below hB
  rw [hz] at hA
  generalize zbox w0 = w1 at *
  have c0 := hA.cell 0 rfl; have c1 := hA.cell 1 rfl; have c2 := hA.cell 2 rfl; have c3 := hA.cell 3 rfl; have c4 := hA.cell 4 rfl; have c5 := hA.cell 5 rfl; have c6 := hA.cell 6 rfl; have c7 := hA.cell 7 rfl; have c8 := hA.cell 8 rfl; have c9 := hA.cell 9 rfl; have c10 := hA.cell 10 rfl
  have x0 := hx.cell 0 rfl; have x1 := hx.cell 1 rfl
  have f0 := hA.free 0 (by simp [Z11]); have f1 := hA.free 1 (by simp [Z11]); have f2 := hA.free 2 (by simp [Z11]); have f3 := hA.free 3 (by simp [Z11]); have f4 := hA.free 4 (by simp [Z11]); have f5 := hA.free 5 (by simp [Z11]); have f6 := hA.free 6 (by simp [Z11]); have f7 := hA.free 7 (by simp [Z11]); have f8 := hA.free 8 (by simp [Z11]); have f9 := hA.free 9 (by simp [Z11]); have f10 := hA.free 10 (by simp [Z11])
  have HA := Lib.hid hA
  have HB := Lib.hid hB2
  clear hA hB hB2 hx hP hBP hz
  go_wp2_with fail
  exact er_fin Tryz.results147 rfl (by omega) HB.out HA.out

/-- the two boxes that equal lays first -/
def two (w : World) (k i c : Int) (t : Bs) (l : Option Addr) (n : Nat) : World := ebox (ebox w k i c t Dt.zero none 0 0 none 0 0 l n n) 1 0 5 [112] Dt.zero none 0 0 none 0 0 none 0 0
theorem two_facts (w : World) (k i c : Int) (t : Bs) (l : Option Addr) (n : Nat) : Blk (two w k i c t l n) w.heap.size (V11 k i c t Dt.zero none 0 0 none 0 0 l n n) ∧ Blk (two w k i c t l n) (w.heap.size + 1) VP0 ∧ Below w.heap.size w (two w k i c t l n) := by
  have e1 := ebox_size w k i c t Dt.zero none 0 0 none 0 0 l n n
  have h1 := ebox_blk w k i c t Dt.zero none 0 0 none 0 0 l n n
  have hb := ebox_below w k i c t Dt.zero none 0 0 none 0 0 l n n
  unfold two
  generalize ebox w k i c t Dt.zero none 0 0 none 0 0 l n n = w1 at *
  have h2 := ebox_blk w1 1 0 5 [112] Dt.zero none 0 0 none 0 0 none 0 0
  have hb2 := ebox_below w1 1 0 5 [112] Dt.zero none 0 0 none 0 0 none 0 0
  rw [e1] at h2
  exact ⟨h1.below hb2, h2, hb.trans (hb2.mono hb.size)⟩
set_option maxRecDepth 100000 in
set_option maxHeartbeats 4000000 in
theorem equalW {l : Option Addr} (w : World) : Calls Tryz.prog 43 #[W0 l, P0] w (fun e w' => e = .returned (.bool false) ∧ Below w.heap.size w w') := by
  obtain ⟨h1, h2, hB⟩ := two_facts w 3 1 0 [119] l 1
  unfold W0 P0 vE Dt.zero
  go_enter Tryz.func43, Tryz.ntmps43
  go_upto_region 1 with (fail)
  change Code.wp _ _ _ _ (two w 3 1 0 [119] l 1)
  generalize two w 3 1 0 [119] l 1 = w1 at *
  have c0 := h1.cell 0 rfl
  have d0 := h2.cell 0 rfl
  go_wp2_with fail
  go_ret
  exact ⟨rfl, hB⟩
theorem eqI0 (w : World) : (binOp .eql 68 (.iface 101 (.agg #[.int .i64 5, .string ⟨#[112]⟩])) (.iface 101 (.agg #[.int .i64 5, .string ⟨#[112]⟩]))).run Tryz.prog w = .ok (.bool true) w := by kernel_rfl
theorem valueP (w : World) : Calls Tryz.prog 50 #[P0] w (fun e w' => e = .returned (.iface 101 (.agg #[.int .i64 5, .string ⟨#[112]⟩])) ∧ Below w.heap.size w w') :=
  (evalueN 1 0 5 [112] Dt.zero none 0 0 none 0 0 none 0 0 w).mono (fun _ _ h => ⟨h.1, h.2.1⟩)
set_option maxRecDepth 100000 in
set_option maxHeartbeats 8000000 in
theorem equalP (w : World) : Calls Tryz.prog 43 #[P0, P0] w (fun e w' => e = .returned (.bool true) ∧ Below w.heap.size w w') := by
  obtain ⟨h1, h2, hB⟩ := two_facts w 1 0 5 [112] none 0
  unfold P0 vE Dt.zero
  go_enter Tryz.func43, Tryz.ntmps43
  go_upto_region 1 with (fail)
  change Code.wp _ _ _ _ (two w 1 0 5 [112] none 0)
  generalize two w 1 0 5 [112] none 0 = w1 at *
  have c0 := h1.cell 0 rfl
  have d0 := h2.cell 0 rfl
  have HK := Lib.hid (show ∀ wx, Below w1.heap.size w1 wx → ((wx.cell? ⟨w.heap.size, 0, none⟩ = some (.int .i64 1) ∧ wx.cell? ⟨w.heap.size, 1, none⟩ = some (.int .i64 0) ∧ wx.cell? ⟨w.heap.size, 2, none⟩ = some (.int .i64 5) ∧ wx.cell? ⟨w.heap.size, 3, none⟩ = some (.string ⟨#[112]⟩) ∧ wx.cell? ⟨w.heap.size, 4, none⟩ = some (.int .i64 0) ∧ wx.cell? ⟨w.heap.size, 5, none⟩ = some (.int .i64 0) ∧ wx.cell? ⟨w.heap.size, 6, none⟩ = some (.int .u64 0) ∧ wx.cell? ⟨w.heap.size, 7, none⟩ = some (.string ⟨#[]⟩) ∧ wx.cell? ⟨w.heap.size, 8, none⟩ = some (.slice none 0 0) ∧ wx.cell? ⟨w.heap.size, 9, none⟩ = some (.slice none 0 0) ∧ wx.cell? ⟨w.heap.size, 10, none⟩ = some (.slice none 0 0)) ∧
    (wx.cell? ⟨w.heap.size + 1, 0, none⟩ = some (.int .i64 1) ∧ wx.cell? ⟨w.heap.size + 1, 1, none⟩ = some (.int .i64 0) ∧ wx.cell? ⟨w.heap.size + 1, 2, none⟩ = some (.int .i64 5) ∧ wx.cell? ⟨w.heap.size + 1, 3, none⟩ = some (.string ⟨#[112]⟩) ∧ wx.cell? ⟨w.heap.size + 1, 4, none⟩ = some (.int .i64 0) ∧ wx.cell? ⟨w.heap.size + 1, 5, none⟩ = some (.int .i64 0) ∧ wx.cell? ⟨w.heap.size + 1, 6, none⟩ = some (.int .u64 0) ∧ wx.cell? ⟨w.heap.size + 1, 7, none⟩ = some (.string ⟨#[]⟩) ∧ wx.cell? ⟨w.heap.size + 1, 8, none⟩ = some (.slice none 0 0) ∧ wx.cell? ⟨w.heap.size + 1, 9, none⟩ = some (.slice none 0 0) ∧ wx.cell? ⟨w.heap.size + 1, 10, none⟩ = some (.slice none 0 0))) from fun wx hx => by
      have a := h1.below hx
      have c := h2.below hx
      exact ⟨⟨a.cell 0 rfl, a.cell 1 rfl, a.cell 2 rfl, a.cell 3 rfl, a.cell 4 rfl, a.cell 5 rfl, a.cell 6 rfl, a.cell 7 rfl, a.cell 8 rfl, a.cell 9 rfl, a.cell 10 rfl⟩, ⟨c.cell 0 rfl, c.cell 1 rfl, c.cell 2 rfl, c.cell 3 rfl, c.cell 4 rfl, c.cell 5 rfl, c.cell 6 rfl, c.cell 7 rfl, c.cell 8 rfl, c.cell 9 rfl, c.cell 10 rfl⟩⟩)
  have HB := Lib.hid hB
  have HC := Lib.hid (fun wx => valueP wx)
  unfold P0 vE Dt.zero at HC
  have hq1 := fun w => eqI0 w
  clear h1 h2 hB
  obtain ⟨p, hp⟩ : ∃ x, x = w.heap.size := ⟨_, rfl⟩
  obtain ⟨q, hq⟩ : ∃ x, x = w.heap.size + 1 := ⟨_, rfl⟩
  go_upto_region 6 with fail
  go_region_held3 (fun wx : World => (wx.cell? ⟨w.heap.size, 0, none⟩ = some (.int .i64 1) ∧ wx.cell? ⟨w.heap.size, 1, none⟩ = some (.int .i64 0) ∧ wx.cell? ⟨w.heap.size, 2, none⟩ = some (.int .i64 5) ∧ wx.cell? ⟨w.heap.size, 3, none⟩ = some (.string ⟨#[112]⟩) ∧ wx.cell? ⟨w.heap.size, 4, none⟩ = some (.int .i64 0) ∧ wx.cell? ⟨w.heap.size, 5, none⟩ = some (.int .i64 0) ∧ wx.cell? ⟨w.heap.size, 6, none⟩ = some (.int .u64 0) ∧ wx.cell? ⟨w.heap.size, 7, none⟩ = some (.string ⟨#[]⟩) ∧ wx.cell? ⟨w.heap.size, 8, none⟩ = some (.slice none 0 0) ∧ wx.cell? ⟨w.heap.size, 9, none⟩ = some (.slice none 0 0) ∧ wx.cell? ⟨w.heap.size, 10, none⟩ = some (.slice none 0 0)) ∧
    (wx.cell? ⟨w.heap.size + 1, 0, none⟩ = some (.int .i64 1) ∧ wx.cell? ⟨w.heap.size + 1, 1, none⟩ = some (.int .i64 0) ∧ wx.cell? ⟨w.heap.size + 1, 2, none⟩ = some (.int .i64 5) ∧ wx.cell? ⟨w.heap.size + 1, 3, none⟩ = some (.string ⟨#[112]⟩) ∧ wx.cell? ⟨w.heap.size + 1, 4, none⟩ = some (.int .i64 0) ∧ wx.cell? ⟨w.heap.size + 1, 5, none⟩ = some (.int .i64 0) ∧ wx.cell? ⟨w.heap.size + 1, 6, none⟩ = some (.int .u64 0) ∧ wx.cell? ⟨w.heap.size + 1, 7, none⟩ = some (.string ⟨#[]⟩) ∧ wx.cell? ⟨w.heap.size + 1, 8, none⟩ = some (.slice none 0 0) ∧ wx.cell? ⟨w.heap.size + 1, 9, none⟩ = some (.slice none 0 0) ∧ wx.cell? ⟨w.heap.size + 1, 10, none⟩ = some (.slice none 0 0)))
    (first | exact HK.out _ (Below.refl _ _) | exact HK.out _ (Below.refl _ _).drew | exact HK.out _ HB2.out | exact HK.out _ HB3.out)
    (first
      | (go_simp; go_at_call 50; (with_reducible refine (HC.out _).mono ?_); rintro e2 w2 ⟨rfl, hB⟩; (first | (have HB3 := Lib.hid (HB2.out.trans (hB.mono HB2.out.size)); clear hB) | (have HB2 := Lib.hid ((Below.refl w1.heap.size w1).drew.trans hB); clear hB))))
  all_goals
    go_wp2_with fail
    go_ret
    exact ⟨rfl, HB.out.trans (HB3.out.mono HB.out.size)⟩
end Go.Proofs.YtbldidiibkcelaaGreatDoor
