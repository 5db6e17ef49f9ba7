/-
  What an error value is made of (walks). Not a statement of the seat.
-/
import Derived.Test.YtbldidiibkcelaaGreatDoorEql
import Derived.Test.YtbldidiibkcelaaGreatDoorREqual
import Derived.Test.YtbldidiibkcelaaGreatDoorECount
import Derived.Deep.Cut
namespace Go.Proofs.YtbldidiibkcelaaGreatDoor
open Go.RowKit

set_option maxRecDepth 100000 in
set_option maxHeartbeats 4000000 in
theorem mk144 {k i c : Int} {t : Bs} {b : Dt} {bl : Option Addr} {bn bc : Nat} {cl : Option Addr} {cn cc : Nat} {l : Option Addr} {n cap : Nat} {p : Nat} {w : World} (hW : Blk w p (V11 k i c t b bl bn bc cl cn cc l n cap)) : Calls Tryz.prog 144 #[.pointer (some ⟨p, 0, none⟩)] w (fun e w' => e = .returned (vE k i c t b bl bn bc cl cn cc l n cap) ∧ Below w.heap.size w w') := by
  have hA := zbox_blk w
  have hB := zbox_below w
  have hx := hW.below hB
  clear hW
  go_enter Tryz.func144, Tryz.ntmps144
  go_upto_region 1 with (fail)
  change Code.wp _ _ _ _ (zbox w)
  generalize zbox w = w1 at *
  have c0 := hA.cell 0 rfl; have c1 := hA.cell 1 rfl; have c2 := hA.cell 2 rfl; have c3 := hA.cell 3 rfl; have c4 := hA.cell 4 rfl; have c5 := hA.cell 5 rfl; have c6 := hA.cell 6 rfl; have c7 := hA.cell 7 rfl; have c8 := hA.cell 8 rfl; have c9 := hA.cell 9 rfl; have c10 := hA.cell 10 rfl
  have x0 := hx.cell 0 rfl; have x1 := hx.cell 1 rfl; have x2 := hx.cell 2 rfl; have x3 := hx.cell 3 rfl; have x4 := hx.cell 4 rfl; have x5 := hx.cell 5 rfl; have x6 := hx.cell 6 rfl; have x7 := hx.cell 7 rfl; have x8 := hx.cell 8 rfl; have x9 := hx.cell 9 rfl; have x10 := hx.cell 10 rfl
  have f0 := hA.free 0 (by simp [Z11]); have f1 := hA.free 1 (by simp [Z11]); have f2 := hA.free 2 (by simp [Z11]); have f3 := hA.free 3 (by simp [Z11]); have f4 := hA.free 4 (by simp [Z11]); have f5 := hA.free 5 (by simp [Z11]); have f6 := hA.free 6 (by simp [Z11]); have f7 := hA.free 7 (by simp [Z11]); have f8 := hA.free 8 (by simp [Z11]); have f9 := hA.free 9 (by simp [Z11]); have f10 := hA.free 10 (by simp [Z11])
  have HA := Lib.hid hA
  have HB := Lib.hid hB
  clear hA hB hx
  go_wp2_with fail
  exact er_fin Tryz.results144 rfl (Nat.le_refl _) HB.out HA.out
set_option maxRecDepth 100000 in
set_option maxHeartbeats 4000000 in
theorem mk150 {k i c : Int} {t : Bs} {b : Dt} {bl : Option Addr} {bn bc : Nat} {cl : Option Addr} {cn cc : Nat} {l : Option Addr} {n cap : Nat} {p : Nat} {w : World} (hW : Blk w p (V11 k i c t b bl bn bc cl cn cc l n cap)) : Calls Tryz.prog 150 #[.pointer (some ⟨p, 0, none⟩)] w (fun e w' => e = .returned (vE k i c t b bl bn bc cl cn cc l n cap) ∧ Below w.heap.size w w') := by
  have hA := zbox_blk w
  have hB := zbox_below w
  have hx := hW.below hB
  clear hW
  go_enter Tryz.func150, Tryz.ntmps150
  go_upto_region 1 with (fail)
  change Code.wp _ _ _ _ (zbox w)
  generalize zbox w = w1 at *
  have c0 := hA.cell 0 rfl; have c1 := hA.cell 1 rfl; have c2 := hA.cell 2 rfl; have c3 := hA.cell 3 rfl; have c4 := hA.cell 4 rfl; have c5 := hA.cell 5 rfl; have c6 := hA.cell 6 rfl; have c7 := hA.cell 7 rfl; have c8 := hA.cell 8 rfl; have c9 := hA.cell 9 rfl; have c10 := hA.cell 10 rfl
  have x0 := hx.cell 0 rfl; have x1 := hx.cell 1 rfl; have x2 := hx.cell 2 rfl; have x3 := hx.cell 3 rfl; have x4 := hx.cell 4 rfl; have x5 := hx.cell 5 rfl; have x6 := hx.cell 6 rfl; have x7 := hx.cell 7 rfl; have x8 := hx.cell 8 rfl; have x9 := hx.cell 9 rfl; have x10 := hx.cell 10 rfl
  have f0 := hA.free 0 (by simp [Z11]); have f1 := hA.free 1 (by simp [Z11]); have f2 := hA.free 2 (by simp [Z11]); have f3 := hA.free 3 (by simp [Z11]); have f4 := hA.free 4 (by simp [Z11]); have f5 := hA.free 5 (by simp [Z11]); have f6 := hA.free 6 (by simp [Z11]); have f7 := hA.free 7 (by simp [Z11]); have f8 := hA.free 8 (by simp [Z11]); have f9 := hA.free 9 (by simp [Z11]); have f10 := hA.free 10 (by simp [Z11])
  have HA := Lib.hid hA
  have HB := Lib.hid hB
  clear hA hB hx
  go_wp2_with fail
  exact er_fin Tryz.results150 rfl (Nat.le_refl _) HB.out HA.out
set_option maxRecDepth 100000 in
set_option maxHeartbeats 4000000 in
theorem mk154 {k i c : Int} {t : Bs} {b : Dt} {bl : Option Addr} {bn bc : Nat} {cl : Option Addr} {cn cc : Nat} {l : Option Addr} {n cap : Nat} {p : Nat} {w : World} (hW : Blk w p (V11 k i c t b bl bn bc cl cn cc l n cap)) : Calls Tryz.prog 154 #[.pointer (some ⟨p, 0, none⟩)] w (fun e w' => e = .returned (vE k i c t b bl bn bc cl cn cc l n cap) ∧ Below w.heap.size w w') := by
  have hA := zbox_blk w
  have hB := zbox_below w
  have hx := hW.below hB
  clear hW
  go_enter Tryz.func154, Tryz.ntmps154
  go_upto_region 1 with (fail)
  change Code.wp _ _ _ _ (zbox w)
  generalize zbox w = w1 at *
  have c0 := hA.cell 0 rfl; have c1 := hA.cell 1 rfl; have c2 := hA.cell 2 rfl; have c3 := hA.cell 3 rfl; have c4 := hA.cell 4 rfl; have c5 := hA.cell 5 rfl; have c6 := hA.cell 6 rfl; have c7 := hA.cell 7 rfl; have c8 := hA.cell 8 rfl; have c9 := hA.cell 9 rfl; have c10 := hA.cell 10 rfl
  have x0 := hx.cell 0 rfl; have x1 := hx.cell 1 rfl; have x2 := hx.cell 2 rfl; have x3 := hx.cell 3 rfl; have x4 := hx.cell 4 rfl; have x5 := hx.cell 5 rfl; have x6 := hx.cell 6 rfl; have x7 := hx.cell 7 rfl; have x8 := hx.cell 8 rfl; have x9 := hx.cell 9 rfl; have x10 := hx.cell 10 rfl
  have f0 := hA.free 0 (by simp [Z11]); have f1 := hA.free 1 (by simp [Z11]); have f2 := hA.free 2 (by simp [Z11]); have f3 := hA.free 3 (by simp [Z11]); have f4 := hA.free 4 (by simp [Z11]); have f5 := hA.free 5 (by simp [Z11]); have f6 := hA.free 6 (by simp [Z11]); have f7 := hA.free 7 (by simp [Z11]); have f8 := hA.free 8 (by simp [Z11]); have f9 := hA.free 9 (by simp [Z11]); have f10 := hA.free 10 (by simp [Z11])
  have HA := Lib.hid hA
  have HB := Lib.hid hB
  clear hA hB hx
  go_wp2_with fail
  exact er_fin Tryz.results154 rfl (Nat.le_refl _) HB.out HA.out
set_option maxRecDepth 100000 in
set_option maxHeartbeats 4000000 in
theorem mk188 {k i c : Int} {t : Bs} {b : Dt} {bl : Option Addr} {bn bc : Nat} {cl : Option Addr} {cn cc : Nat} {l : Option Addr} {n cap : Nat} {p : Nat} {w : World} (hW : Blk w p (V11 k i c t b bl bn bc cl cn cc l n cap)) : Calls Tryz.prog 188 #[.pointer (some ⟨p, 0, none⟩)] w (fun e w' => e = .returned (vE k i c t b bl bn bc cl cn cc l n cap) ∧ Below w.heap.size w w') := by
  have hA := zbox_blk w
  have hB := zbox_below w
  have hx := hW.below hB
  clear hW
  go_enter Tryz.func188, Tryz.ntmps188
  go_upto_region 1 with (fail)
  change Code.wp _ _ _ _ (zbox w)
  generalize zbox w = w1 at *
  have c0 := hA.cell 0 rfl; have c1 := hA.cell 1 rfl; have c2 := hA.cell 2 rfl; have c3 := hA.cell 3 rfl; have c4 := hA.cell 4 rfl; have c5 := hA.cell 5 rfl; have c6 := hA.cell 6 rfl; have c7 := hA.cell 7 rfl; have c8 := hA.cell 8 rfl; have c9 := hA.cell 9 rfl; have c10 := hA.cell 10 rfl
  have x0 := hx.cell 0 rfl; have x1 := hx.cell 1 rfl; have x2 := hx.cell 2 rfl; have x3 := hx.cell 3 rfl; have x4 := hx.cell 4 rfl; have x5 := hx.cell 5 rfl; have x6 := hx.cell 6 rfl; have x7 := hx.cell 7 rfl; have x8 := hx.cell 8 rfl; have x9 := hx.cell 9 rfl; have x10 := hx.cell 10 rfl
  have f0 := hA.free 0 (by simp [Z11]); have f1 := hA.free 1 (by simp [Z11]); have f2 := hA.free 2 (by simp [Z11]); have f3 := hA.free 3 (by simp [Z11]); have f4 := hA.free 4 (by simp [Z11]); have f5 := hA.free 5 (by simp [Z11]); have f6 := hA.free 6 (by simp [Z11]); have f7 := hA.free 7 (by simp [Z11]); have f8 := hA.free 8 (by simp [Z11]); have f9 := hA.free 9 (by simp [Z11]); have f10 := hA.free 10 (by simp [Z11])
  have HA := Lib.hid hA
  have HB := Lib.hid hB
  clear hA hB hx
  go_wp2_with fail
  exact er_fin Tryz.results188 rfl (Nat.le_refl _) HB.out HA.out
set_option maxRecDepth 100000 in
set_option maxHeartbeats 4000000 in
theorem mk193 {k i c : Int} {t : Bs} {b : Dt} {bl : Option Addr} {bn bc : Nat} {cl : Option Addr} {cn cc : Nat} {l : Option Addr} {n cap : Nat} {p : Nat} {w : World} (hW : Blk w p (V11 k i c t b bl bn bc cl cn cc l n cap)) : Calls Tryz.prog 193 #[.pointer (some ⟨p, 0, none⟩)] w (fun e w' => e = .returned (vE k i c t b bl bn bc cl cn cc l n cap) ∧ Below w.heap.size w w') := by
  have hA := zbox_blk w
  have hB := zbox_below w
  have hx := hW.below hB
  clear hW
  go_enter Tryz.func193, Tryz.ntmps193
  go_upto_region 1 with (fail)
  change Code.wp _ _ _ _ (zbox w)
  generalize zbox w = w1 at *
  have c0 := hA.cell 0 rfl; have c1 := hA.cell 1 rfl; have c2 := hA.cell 2 rfl; have c3 := hA.cell 3 rfl; have c4 := hA.cell 4 rfl; have c5 := hA.cell 5 rfl; have c6 := hA.cell 6 rfl; have c7 := hA.cell 7 rfl; have c8 := hA.cell 8 rfl; have c9 := hA.cell 9 rfl; have c10 := hA.cell 10 rfl
  have x0 := hx.cell 0 rfl; have x1 := hx.cell 1 rfl; have x2 := hx.cell 2 rfl; have x3 := hx.cell 3 rfl; have x4 := hx.cell 4 rfl; have x5 := hx.cell 5 rfl; have x6 := hx.cell 6 rfl; have x7 := hx.cell 7 rfl; have x8 := hx.cell 8 rfl; have x9 := hx.cell 9 rfl; have x10 := hx.cell 10 rfl
  have f0 := hA.free 0 (by simp [Z11]); have f1 := hA.free 1 (by simp [Z11]); have f2 := hA.free 2 (by simp [Z11]); have f3 := hA.free 3 (by simp [Z11]); have f4 := hA.free 4 (by simp [Z11]); have f5 := hA.free 5 (by simp [Z11]); have f6 := hA.free 6 (by simp [Z11]); have f7 := hA.free 7 (by simp [Z11]); have f8 := hA.free 8 (by simp [Z11]); have f9 := hA.free 9 (by simp [Z11]); have f10 := hA.free 10 (by simp [Z11])
  have HA := Lib.hid hA
  have HB := Lib.hid hB
  clear hA hB hx
  go_wp2_with fail
  exact er_fin Tryz.results193 rfl (Nat.le_refl _) HB.out HA.out
set_option maxRecDepth 100000 in
set_option maxHeartbeats 4000000 in
theorem mk144n (w : World) : Calls Tryz.prog 144 #[.pointer none] w (fun e w' => e = .returned (vE 7 0 0 [] Dt.zero none 0 0 none 0 0 none 0 0) ∧ Below w.heap.size w w') := by
  have hA := zbox_blk w
  have hB := zbox_below w
  go_enter Tryz.func144, Tryz.ntmps144
  go_upto_region 1 with (fail)
  change Code.wp _ _ _ _ (zbox w)
  generalize zbox w = w1 at *
  have c0 := hA.cell 0 rfl; have c1 := hA.cell 1 rfl; have c2 := hA.cell 2 rfl; have c3 := hA.cell 3 rfl; have c4 := hA.cell 4 rfl; have c5 := hA.cell 5 rfl; have c6 := hA.cell 6 rfl; have c7 := hA.cell 7 rfl; have c8 := hA.cell 8 rfl; have c9 := hA.cell 9 rfl; have c10 := hA.cell 10 rfl
  have f0 := hA.free 0 (by simp [Z11]); have f1 := hA.free 1 (by simp [Z11]); have f2 := hA.free 2 (by simp [Z11]); have f3 := hA.free 3 (by simp [Z11]); have f4 := hA.free 4 (by simp [Z11]); have f5 := hA.free 5 (by simp [Z11]); have f6 := hA.free 6 (by simp [Z11]); have f7 := hA.free 7 (by simp [Z11]); have f8 := hA.free 8 (by simp [Z11]); have f9 := hA.free 9 (by simp [Z11]); have f10 := hA.free 10 (by simp [Z11])
  have HA := Lib.hid hA
  have HB := Lib.hid hB
  clear hA hB
  go_wp2_with fail
  exact er_fin Tryz.results144 rfl (Nat.le_refl _) HB.out HA.out
set_option maxRecDepth 100000 in
set_option maxHeartbeats 4000000 in
theorem mk184 (cl : Option Addr) (cn cc : Nat) (w : World) : Calls Tryz.prog 184 #[.slice cl cn cc] w (fun e w' => e = .returned (vE 6 0 0 [] Dt.zero none 0 0 cl cn cc none 0 0) ∧ Below w.heap.size w w') := by
  have hA := zbox_blk w
  have hB := zbox_below w
  go_enter Tryz.func184, Tryz.ntmps184
  go_upto_region 1 with (fail)
  change Code.wp _ _ _ _ (zbox w)
  generalize zbox w = w1 at *
  have c0 := hA.cell 0 rfl; have c1 := hA.cell 1 rfl; have c2 := hA.cell 2 rfl; have c3 := hA.cell 3 rfl; have c4 := hA.cell 4 rfl; have c5 := hA.cell 5 rfl; have c6 := hA.cell 6 rfl; have c7 := hA.cell 7 rfl; have c8 := hA.cell 8 rfl; have c9 := hA.cell 9 rfl; have c10 := hA.cell 10 rfl
  have f0 := hA.free 0 (by simp [Z11]); have f1 := hA.free 1 (by simp [Z11]); have f2 := hA.free 2 (by simp [Z11]); have f3 := hA.free 3 (by simp [Z11]); have f4 := hA.free 4 (by simp [Z11]); have f5 := hA.free 5 (by simp [Z11]); have f6 := hA.free 6 (by simp [Z11]); have f7 := hA.free 7 (by simp [Z11]); have f8 := hA.free 8 (by simp [Z11]); have f9 := hA.free 9 (by simp [Z11]); have f10 := hA.free 10 (by simp [Z11])
  have HA := Lib.hid hA
  have HB := Lib.hid hB
  clear hA hB
  go_wp2_with fail
  exact er_fin Tryz.results184 rfl (Nat.le_refl _) HB.out HA.out
set_option maxRecDepth 100000 in
set_option maxHeartbeats 4000000 in
theorem mk147 (c : Int) (t : Bs) (w : World) : Calls Tryz.prog 147 #[.agg #[.int .i64 c, .string ⟨t.toArray⟩]] w (fun e w' => e = .returned (vE 1 0 c t Dt.zero none 0 0 none 0 0 none 0 0) ∧ Below w.heap.size w w') := by
  have hP := Blk.new w #[.int .i64 c, .string ⟨t.toArray⟩] 101
  have hBP : Below w.heap.size w (w.alloc (.cells #[.int .i64 c, .string ⟨t.toArray⟩] 101)) := (Below.refl _ _).alloc (Nat.le_refl _) _
  have hz : (w.alloc (.cells #[.int .i64 c, .string ⟨t.toArray⟩] 101)).heap.size = w.heap.size + 1 := by simp
  go_enter Tryz.func147, Tryz.ntmps147
  go_upto_region 1 with (fail)
  change Code.wp _ _ _ _ (zbox (w.alloc (.cells #[.int .i64 c, .string ⟨t.toArray⟩] 101)))
  generalize w.alloc (.cells #[.int .i64 c, .string ⟨t.toArray⟩] 101) = w0 at *
  have hA := zbox_blk w0
  have hB := zbox_below w0
  have hB2 : Below w.heap.size w (zbox w0) := hBP.trans (hB.mono hBP.size)
  have hx := hP.below hB
  have x0 := hx.cell 0 rfl; have x1 := hx.cell 1 rfl
  rw [hz] at hA
  generalize zbox w0 = w1 at *
  have c0 := hA.cell 0 rfl; have c1 := hA.cell 1 rfl; have c2 := hA.cell 2 rfl; have c3 := hA.cell 3 rfl; have c4 := hA.cell 4 rfl; have c5 := hA.cell 5 rfl; have c6 := hA.cell 6 rfl; have c7 := hA.cell 7 rfl; have c8 := hA.cell 8 rfl; have c9 := hA.cell 9 rfl; have c10 := hA.cell 10 rfl
  have f0 := hA.free 0 (by simp [Z11]); have f1 := hA.free 1 (by simp [Z11]); have f2 := hA.free 2 (by simp [Z11]); have f3 := hA.free 3 (by simp [Z11]); have f4 := hA.free 4 (by simp [Z11]); have f5 := hA.free 5 (by simp [Z11]); have f6 := hA.free 6 (by simp [Z11]); have f7 := hA.free 7 (by simp [Z11]); have f8 := hA.free 8 (by simp [Z11]); have f9 := hA.free 9 (by simp [Z11]); have f10 := hA.free 10 (by simp [Z11])
  have HA := Lib.hid hA
  have HB := Lib.hid hB2
  clear hA hB hB2 hx hP hBP hz
  go_wp2_with fail
  exact er_fin Tryz.results147 rfl (by omega) HB.out HA.out
set_option maxRecDepth 100000 in
set_option maxHeartbeats 4000000 in
theorem mk197 (c : Int) (t : Bs) (w : World) : Calls Tryz.prog 197 #[.agg #[.int .i64 c, .string ⟨t.toArray⟩]] w (fun e w' => e = .returned (vE 10 0 c t Dt.zero none 0 0 none 0 0 none 0 0) ∧ Below w.heap.size w w') := by
  have hP := Blk.new w #[.int .i64 c, .string ⟨t.toArray⟩] 110
  have hBP : Below w.heap.size w (w.alloc (.cells #[.int .i64 c, .string ⟨t.toArray⟩] 110)) := (Below.refl _ _).alloc (Nat.le_refl _) _
  have hz : (w.alloc (.cells #[.int .i64 c, .string ⟨t.toArray⟩] 110)).heap.size = w.heap.size + 1 := by simp
  go_enter Tryz.func197, Tryz.ntmps197
  go_upto_region 1 with (fail)
  change Code.wp _ _ _ _ (zbox (w.alloc (.cells #[.int .i64 c, .string ⟨t.toArray⟩] 110)))
  generalize w.alloc (.cells #[.int .i64 c, .string ⟨t.toArray⟩] 110) = w0 at *
  have hA := zbox_blk w0
  have hB := zbox_below w0
  have hB2 : Below w.heap.size w (zbox w0) := hBP.trans (hB.mono hBP.size)
  have hx := hP.below hB
  have x0 := hx.cell 0 rfl; have x1 := hx.cell 1 rfl
  rw [hz] at hA
  generalize zbox w0 = w1 at *
  have c0 := hA.cell 0 rfl; have c1 := hA.cell 1 rfl; have c2 := hA.cell 2 rfl; have c3 := hA.cell 3 rfl; have c4 := hA.cell 4 rfl; have c5 := hA.cell 5 rfl; have c6 := hA.cell 6 rfl; have c7 := hA.cell 7 rfl; have c8 := hA.cell 8 rfl; have c9 := hA.cell 9 rfl; have c10 := hA.cell 10 rfl
  have f0 := hA.free 0 (by simp [Z11]); have f1 := hA.free 1 (by simp [Z11]); have f2 := hA.free 2 (by simp [Z11]); have f3 := hA.free 3 (by simp [Z11]); have f4 := hA.free 4 (by simp [Z11]); have f5 := hA.free 5 (by simp [Z11]); have f6 := hA.free 6 (by simp [Z11]); have f7 := hA.free 7 (by simp [Z11]); have f8 := hA.free 8 (by simp [Z11]); have f9 := hA.free 9 (by simp [Z11]); have f10 := hA.free 10 (by simp [Z11])
  have HA := Lib.hid hA
  have HB := Lib.hid hB2
  clear hA hB hB2 hx hP hBP hz
  go_wp2_with fail
  exact er_fin Tryz.results197 rfl (by omega) HB.out HA.out
set_option maxRecDepth 100000 in
set_option maxHeartbeats 4000000 in
theorem mk164 {k i c : Int} {t : Bs} {b : Dt} {bl : Option Addr} {bn bc : Nat} {cl : Option Addr} {cn cc : Nat} {l : Option Addr} {n cap : Nat} {q : Nat} (w : World) (hq : Blk w q (V11 k i c t b bl bn bc cl cn cc l n cap)) : Calls Tryz.prog 164 #[.agg #[.pointer (some ⟨q, 0, none⟩)]] w (fun e w' => e = .returned (vE k i c t b bl bn bc cl cn cc l n cap) ∧ Below w.heap.size w w') := by
  have hP := Blk.new w #[.pointer (some ⟨q, 0, none⟩)] 106
  have hBP : Below w.heap.size w (w.alloc (.cells #[.pointer (some ⟨q, 0, none⟩)] 106)) := (Below.refl _ _).alloc (Nat.le_refl _) _
  have hz : (w.alloc (.cells #[.pointer (some ⟨q, 0, none⟩)] 106)).heap.size = w.heap.size + 1 := by simp
  go_enter Tryz.func164, Tryz.ntmps164
  go_upto_region 1 with (fail)
  change Code.wp _ _ _ _ (zbox (w.alloc (.cells #[.pointer (some ⟨q, 0, none⟩)] 106)))
  generalize w.alloc (.cells #[.pointer (some ⟨q, 0, none⟩)] 106) = w0 at *
  have hA := zbox_blk w0
  have hB := zbox_below w0
  have hB2 : Below w.heap.size w (zbox w0) := hBP.trans (hB.mono hBP.size)
  have hx := hP.below hB
  have x0 := hx.cell 0 rfl
  have hy := hq.below hB2
  have y0 := hy.cell 0 rfl; have y1 := hy.cell 1 rfl; have y2 := hy.cell 2 rfl; have y3 := hy.cell 3 rfl; have y4 := hy.cell 4 rfl; have y5 := hy.cell 5 rfl; have y6 := hy.cell 6 rfl; have y7 := hy.cell 7 rfl; have y8 := hy.cell 8 rfl; have y9 := hy.cell 9 rfl; have y10 := hy.cell 10 rfl
  clear hy hq
  rw [hz] at hA
  generalize zbox w0 = w1 at *
  have c0 := hA.cell 0 rfl; have c1 := hA.cell 1 rfl; have c2 := hA.cell 2 rfl; have c3 := hA.cell 3 rfl; have c4 := hA.cell 4 rfl; have c5 := hA.cell 5 rfl; have c6 := hA.cell 6 rfl; have c7 := hA.cell 7 rfl; have c8 := hA.cell 8 rfl; have c9 := hA.cell 9 rfl; have c10 := hA.cell 10 rfl
  have f0 := hA.free 0 (by simp [Z11]); have f1 := hA.free 1 (by simp [Z11]); have f2 := hA.free 2 (by simp [Z11]); have f3 := hA.free 3 (by simp [Z11]); have f4 := hA.free 4 (by simp [Z11]); have f5 := hA.free 5 (by simp [Z11]); have f6 := hA.free 6 (by simp [Z11]); have f7 := hA.free 7 (by simp [Z11]); have f8 := hA.free 8 (by simp [Z11]); have f9 := hA.free 9 (by simp [Z11]); have f10 := hA.free 10 (by simp [Z11])
  have HA := Lib.hid hA
  have HB := Lib.hid hB2
  clear hA hB hB2 hx hP hBP hz
  go_wp2_with fail
  exact er_fin Tryz.results164 rfl (by omega) HB.out HA.out

def IxRel (cs : List Int) (c' : Int) (w : World) (t8 : Value) (wr : World) : Prop := ∃ j : Nat, t8 = .int .i64 (j : Nat) ∧ wr = w ∧ j ≤ cs.length ∧ cs.any (fun x => x == c') = (cs.drop j).any (fun x => x == c')
/-- slices.Index: whether there is one -/
def IXP (r : Bool) (w : World) (e : Ending) (w' : World) : Prop := w' = w ∧ ∃ x : Int, e = .returned (.int .i64 x) ∧ (decide (0 ≤ x)) = r
set_option maxRecDepth 100000 in
set_option maxHeartbeats 8000000 in
theorem index190 {cs : List Int} {c' : Int} {cl : Option Addr} {cn cc : Nat} {w : World} (hR : Rd w 1 cl cn cc (I8 cs)) :
    Calls Tryz.prog 190 #[.slice cl cn cc, .int .i64 c'] w (IXP (cs.any (fun x => x == c')) w) := by
  have hcs : cs.length = cn := by have h : (I8 cs).length = cn * 1 := hR.1; rw [I8_length] at h; omega
  have hmax : cn ≤ 9223372036854775807 := by have h1 := hR.le; have h2 := hR.max; unfold maxLen at h2; omega
  generalize hres : cs.any (fun x => x == c') = res
  have HR2 := Lib.hid hres
  have HRD := Lib.hid hR
  have HCS := Lib.hid hcs
  clear hR hcs hres
  go_enter Tryz.func190, Tryz.ntmps190
  go_wp2_with fail
  go_loopw [8] (fun t8 wr => IxRel cs c' w t8 wr) (fun t8 _ => cn - (intOf t8).toNat)
  case atStart => exact ⟨0, rfl, rfl, Nat.zero_le _, by simp⟩
  case round =>
    obtain ⟨j, rfl, rfl, hj, hq⟩ := hrel
    by_cases hjn : j < cn
    · have hlt : j < cs.length := by rw [HCS.out]; exact hjn
      have hv : (j : Int) < (cn : Int) := by omega
      obtain ⟨bb, off, rfl, hltb, hcell⟩ : ∃ b off, cl = some ⟨b, off, none⟩ ∧ b < wr.heap.size ∧ wr.cell? ⟨b, off + j, none⟩ = some (.int .i64 (cs[j]'hlt)) := by
        obtain ⟨b, off, ha, hb, hc⟩ := HRD.out.at (k := j) hjn
        have h := hc 0 (by omega)
        exact ⟨b, off, ha, hb, by rw [Nat.mul_one, Nat.add_zero] at h; rw [h]; simp [I8, hlt]⟩
      have hd : (cs.drop j).any (fun x => x == c') = ((cs[j]'hlt == c') || (cs.drop (j + 1)).any (fun x => x == c')) := by
        rw [List.drop_eq_getElem_cons hlt]; rfl
      rw [hd] at hq
      generalize cs[j]'hlt = x at *
      have HQ := Lib.hid hq
      have HJ := Lib.hid hjn
      have hjx : ((j : Nat) : Int) + 1 ≤ 9223372036854775807 := by omega
      clear hq hd hlt hltb hj
      by_cases hxy : c' = x
      · have hxe : (c' == x) = true := by simp [hxy]
        have HE := Lib.hid (show (x == c') = true by simp [hxy])
        clear hxy
        go_wp2_with fail
        go_ret
        exact ⟨rfl, (j : Int), rfl, by rw [← HR2.out, HQ.out, HE.out]; simp⟩
      · have hxe : (c' == x) = false := by simpa using hxy
        have HE := Lib.hid (show (x == c') = false by simp; exact fun e => hxy e.symm)
        clear hxy
        go_wp2_with fail
        go_roundw
        case rel => exact ⟨j + 1, by go_num, rfl, by have := HJ.out; have := HCS.out; omega, by rw [HQ.out, HE.out]; rfl⟩
        case measure => simp [intOf]; have := HJ.out; omega
    · have hv : ¬ (j : Int) < (cn : Int) := by omega
      have HQ := Lib.hid hq
      have HJ := Lib.hid hjn
      clear hq hjn hj
      go_wp2_with fail
      go_ret
      exact ⟨rfl, -1, rfl, by rw [← HR2.out, HQ.out, List.drop_of_length_le (by have := HJ.out; have := HCS.out; omega)]; rfl⟩
set_option maxRecDepth 100000 in
theorem contains189 {cs : List Int} {c' : Int} {cl : Option Addr} {cn cc : Nat} {w : World} (hR : Rd w 1 cl cn cc (I8 cs)) :
    Calls Tryz.prog 189 #[.slice cl cn cc, .int .i64 c'] w (fun e w' => e = .returned (.bool (cs.any (fun x => x == c'))) ∧ w' = w) := by
  have HC := Lib.hid (index190 (c' := c') hR)
  clear hR
  generalize cs.any (fun x => x == c') = r at *
  go_enter Tryz.func189, Tryz.ntmps189
  go_wp2_with (go_at_call 190; (with_reducible refine HC.out.mono ?_); rintro e2 w2 ⟨rfl, x, rfl, hx⟩; have HX := Lib.hid hx; clear hx)
  go_ret
  exact ⟨by rw [← HX.out]; rfl, rfl⟩
set_option maxRecDepth 100000 in
theorem code145 (c : Int) (t : Bs) (w : World) : Calls Tryz.prog 145 #[.agg #[.int .i64 c, .string ⟨t.toArray⟩]] w (fun e w' => e = .returned (.int .i64 c) ∧ Below w.heap.size w w') := by
  have hA := Blk.new w #[.int .i64 c, .string ⟨t.toArray⟩] 101
  have hB : Below w.heap.size w (w.alloc (.cells #[.int .i64 c, .string ⟨t.toArray⟩] 101)) := (Below.refl _ _).alloc (Nat.le_refl _) _
  go_enter Tryz.func145, Tryz.ntmps145
  go_upto_region 1 with (fail)
  generalize w.alloc (.cells #[.int .i64 c, .string ⟨t.toArray⟩] 101) = w1 at *
  have c0 := hA.cell 0 rfl; have c1 := hA.cell 1 rfl
  go_wp2_with fail
  go_ret
  exact ⟨rfl, hB⟩
set_option maxRecDepth 100000 in
theorem code194 (c : Int) (t : Bs) (w : World) : Calls Tryz.prog 194 #[.agg #[.int .i64 c, .string ⟨t.toArray⟩]] w (fun e w' => e = .returned (.int .i64 c) ∧ Below w.heap.size w w') := by
  have hA := Blk.new w #[.int .i64 c, .string ⟨t.toArray⟩] 110
  have hB : Below w.heap.size w (w.alloc (.cells #[.int .i64 c, .string ⟨t.toArray⟩] 110)) := (Below.refl _ _).alloc (Nat.le_refl _) _
  go_enter Tryz.func194, Tryz.ntmps194
  go_upto_region 1 with (fail)
  generalize w.alloc (.cells #[.int .i64 c, .string ⟨t.toArray⟩] 110) = w1 at *
  have c0 := hA.cell 0 rfl; have c1 := hA.cell 1 rfl
  go_wp2_with fail
  go_ret
  exact ⟨rfl, hB⟩
end Go.Proofs.YtbldidiibkcelaaGreatDoor

/-
  The document's Is (walks). Not a statement of the seat.
-/
namespace Go.Proofs.YtbldidiibkcelaaGreatDoor
open Go.RowKit

/-- an error says of itself that it is another one -/
def saysM (k : Int) (cs : List Int) (k' c' : Int) : Bool := k == 8 && ((k' == 1 || k' == 10) && cs.any (fun x => x == c'))
/-- it is decided -/
def decd (r : Bool × Int) : Bool := r.1 || r.2 != 0
/-- an error by itself, at a target -/
def isHead (T : Et) (k i c : Int) (t : Bs) (b : Dt) (cs : List Int) : Bool × Int :=
  if decd (if T.k = 6 then (false, 0) else eqE k i c t b T.k T.i T.c T.t T.b) then (if T.k = 6 then (false, 0) else eqE k i c t b T.k T.i T.c T.t T.b) else (saysM k cs T.k T.c, 0)
/-- a row of errors, at a target -/
def isL (T : Et) : Eo → Bool × Int
  | .nil => (false, 0)
  | .cons k i c t b cs kids rest =>
    if decd (if k = 0 then (false, 0) else if decd (isHead T k i c t b cs) then isHead T k i c t b cs else isL T kids) then (if k = 0 then (false, 0) else if decd (isHead T k i c t b cs) then isHead T k i c t b cs else isL T kids) else isL T rest
/-- .. one error -/
def is1 (T : Et) (k i c : Int) (t : Bs) (b : Dt) (cs : List Int) (kids : Eo) : Bool × Int := if k = 0 then (false, 0) else if decd (isHead T k i c t b cs) then isHead T k i c t b cs else isL T kids
theorem isL_cons (T : Et) (k i c : Int) (t : Bs) (b : Dt) (cs : List Int) (kids rest : Eo) : isL T (.cons k i c t b cs kids rest) = if decd (is1 T k i c t b cs kids) then is1 T k i c t b cs kids else isL T rest := by
  rw [isL]; rfl
/-- what may be compared, may be -/
def okL : Eo → Prop
  | .nil => True
  | .cons k _ _ _ b _ kids rest => (k = 5 → okB b) ∧ okL kids ∧ okL rest
theorem okL_app : ∀ (f : Eo) {g : Eo}, okL (f.app g) → okL g
  | .nil, _, h => h
  | .cons _ _ _ _ _ _ _ r, _, h => okL_app r h.2.2
theorem okL_right : ∀ (f : Eo) (m : Bool), rrightL m f = true → okL f
  | .nil, _, _ => trivial
  | .cons k i c t b cs kids rest, m, h => by
    rw [rrightL] at h
    simp only [Bool.and_eq_true] at h
    obtain ⟨⟨_, h1, h2⟩, h3⟩ := h
    refine ⟨fun e => okB_of ?_, okL_right kids _ h2, okL_right rest _ h3⟩
    subst e
    unfold fitsE at h1
    simp only [Bool.and_eq_true] at h1
    exact h1.2.2
theorem nrm_b (x : Bool) : nrm (x, 0) := by cases x <;> simp [nrm]
theorem nrm_if {c : Prop} [Decidable c] {p q : Bool × Int} (hp : nrm p) (hq : nrm q) : nrm (if c then p else q) := by
  split
  · exact hp
  · exact hq
theorem isHead_nrm (T : Et) (k i c : Int) (t : Bs) (b : Dt) (cs : List Int) : nrm (isHead T k i c t b cs) :=
  nrm_if (nrm_if (nrm_b _) (eqE_nrm _ _ _ _ _ _ _ _ _ _)) (nrm_b _)
theorem isL_nrm (T : Et) : ∀ f : Eo, nrm (isL T f)
  | .nil => .inr (.inl rfl)
  | .cons k i c t b cs kids rest => by
    rw [isL]
    exact nrm_if (nrm_if (nrm_b _) (nrm_if (isHead_nrm _ _ _ _ _ _ _) (isL_nrm T kids))) (isL_nrm T rest)
theorem is1_nrm (T : Et) (k i c : Int) (t : Bs) (b : Dt) (cs : List Int) (kids : Eo) : nrm (is1 T k i c t b cs kids) :=
  nrm_if (nrm_b _) (nrm_if (isHead_nrm _ _ _ _ _ _ _) (isL_nrm T kids))

def SyRel (cs : List Int) (c' : Int) (w : World) (t23 : Value) (wr : World) : Prop := ∃ j : Nat, t23 = .int .i64 (j : Nat) ∧ wr = w ∧ j ≤ cs.length ∧ cs.any (fun x => x == c') = (cs.drop j).any (fun x => x == c')
set_option maxRecDepth 100000 in
set_option maxHeartbeats 8000000 in
theorem saysN {k i c : Int} {t : Bs} {b : Dt} {bl : Option Addr} {bn bc : Nat} {cl : Option Addr} {cn cc : Nat} {l : Option Addr} {n cap : Nat} {k' i' c' : Int} {t' : Bs} {b' : Dt} {bl' : Option Addr} {bn' bc' : Nat} {cl' : Option Addr} {cn' cc' : Nat} {l' : Option Addr} {n' cap' : Nat} {cs : List Int} {w : World} (hR : Rd w 1 cl cn cc (I8 cs)) :
    Calls Tryz.prog 85 #[vE k i c t b bl bn bc cl cn cc l n cap, vE k' i' c' t' b' bl' bn' bc' cl' cn' cc' l' n' cap'] w (fun e w' => e = .returned (.bool (saysM k cs k' c')) ∧ Below w.heap.size w w') := by
  obtain ⟨hA, hA', hB, _⟩ := ebox2_facts w k i c t b bl bn bc cl cn cc l n cap k' i' c' t' b' bl' bn' bc' cl' cn' cc' l' n' cap'
  have hcs : cs.length = cn := by have h : (I8 cs).length = cn * 1 := hR.1; rw [I8_length] at h; omega
  have hmax : cn ≤ 9223372036854775807 := by have h1 := hR.le; have h2 := hR.max; unfold maxLen at h2; omega
  have hres : saysM k cs k' c' = (k == 8 && ((k' == 1 || k' == 10) && cs.any (fun x => x == c'))) := rfl
  generalize saysM k cs k' c' = res at *
  have HR := Lib.hid hres
  unfold vE
  go_enter Tryz.func85, Tryz.ntmps85
  go_upto_region 1 with (fail)
  change Code.wp _ _ _ _ (ebox2 w k i c t b bl bn bc cl cn cc l n cap k' i' c' t' b' bl' bn' bc' cl' cn' cc' l' n' cap')
  generalize ebox2 w k i c t b bl bn bc cl cn cc l n cap k' i' c' t' b' bl' bn' bc' cl' cn' cc' l' n' cap' = w1 at *
  obtain ⟨q, hqq⟩ : ∃ x, x = w.heap.size + 1 := ⟨_, rfl⟩
  obtain ⟨p, hpp⟩ : ∃ x, x = w.heap.size := ⟨_, rfl⟩
  rw [← hqq] at hA'
  rw [← hpp] at hA
  rw [← hqq, ← hpp]
  have x0 := hA.cell 0 rfl; have x9 := hA.cell 9 rfl; have y0 := hA'.cell 0 rfl; have y2 := hA'.cell 2 rfl
  have HRD := Lib.hid (hR.below hB)
  have HB := Lib.hid hB
  have HCS := Lib.hid hcs
  clear hA hA' hB hqq hpp hR hcs hres
  cases h8 : (k == 8)
  · have H8 := Lib.hid h8
    have n8 : (k != 8) = true := by simp [bne, h8]
    go_wp2_with fail
    go_ret
    exact ⟨by rw [HR.out, H8.out]; rfl, HB.out⟩
  have H8 := Lib.hid h8
  have n8 : (k != 8) = false := by simp [bne, h8]
  cases hp : (k' == 1 || k' == 10)
  · have HP := Lib.hid hp
    have n1 : (k' != 1) = true := by simp at hp; simp; omega
    have n10 : (k' != 10) = true := by simp at hp; simp; omega
    clear hp
    go_wp2_with fail
    go_ret
    exact ⟨by rw [HR.out, H8.out, HP.out]; rfl, HB.out⟩
  have HR2 := Lib.hid (show res = cs.any (fun x => x == c') by rw [HR.out, H8.out, hp]; rfl)
  have HP := Lib.hid hp
  clear hp h8 HR
  go_cut [19] from 7 to 19 (fun s19 wx => wx = w1 ∧ s19 = .bool false)
  case first =>
    by_cases h1 : k' = 1
    · have n1 : (k' != 1) = false := by simp [h1]
      go_wp2_with fail
      go_meet
      case rel => exact ⟨rfl, rfl⟩
    · have n1 : (k' != 1) = true := by simpa using h1
      have n10 : (k' != 10) = false := by have := HP.out; simp at this; simp; omega
      go_wp2_with fail
      go_meet
      case rel => exact ⟨rfl, rfl⟩
  case rest =>
    obtain ⟨rfl, rfl⟩ := hcut
    go_wp2_with fail
    go_loopw [23] (fun t23 wr => SyRel cs c' wc t23 wr) (fun t23 _ => cn - (intOf t23).toNat)
    case atStart => exact ⟨0, rfl, rfl, Nat.zero_le _, by simp⟩
    case round =>
      obtain ⟨j, rfl, rfl, hj, hq⟩ := hrel
      by_cases hjn : j < cn
      · have hlt : j < cs.length := by rw [HCS.out]; exact hjn
        have hv : (j : Int) < (cn : Int) := by omega
        obtain ⟨bb, off, rfl, hltb, hcell⟩ : ∃ b off, cl = some ⟨b, off, none⟩ ∧ b < wr.heap.size ∧ wr.cell? ⟨b, off + j, none⟩ = some (.int .i64 (cs[j]'hlt)) := by
          obtain ⟨b, off, ha, hb, hc⟩ := HRD.out.at (k := j) hjn
          have h := hc 0 (by omega)
          exact ⟨b, off, ha, hb, by rw [Nat.mul_one, Nat.add_zero] at h; rw [h]; simp [I8, hlt]⟩
        have hd : (cs.drop j).any (fun x => x == c') = ((cs[j]'hlt == c') || (cs.drop (j + 1)).any (fun x => x == c')) := by
          rw [List.drop_eq_getElem_cons hlt]; rfl
        rw [hd] at hq
        generalize cs[j]'hlt = x at *
        have HQ := Lib.hid hq
        have HJ := Lib.hid hjn
        have hjx : ((j : Nat) : Int) + 1 ≤ 9223372036854775807 := by omega
        clear hq hd hlt hltb hj
        cases hxy : (x == c')
        · have HE := Lib.hid hxy
          go_wp2_with fail
          go_roundw
          case rel => exact ⟨j + 1, by go_num, rfl, by have := HJ.out; have := HCS.out; omega, by rw [HQ.out, HE.out]; rfl⟩
          case measure => simp [intOf]; have := HJ.out; omega
        · have HE := Lib.hid hxy
          go_wp2_with fail
          go_ret
          exact ⟨by rw [HR2.out, HQ.out, HE.out]; rfl, HB.out⟩
      · have hv : ¬ (j : Int) < (cn : Int) := by omega
        have HQ := Lib.hid hq
        have HJ := Lib.hid hjn
        clear hq hjn hj
        go_wp2_with fail
        go_ret
        exact ⟨by rw [HR2.out, HQ.out, List.drop_of_length_le (by have := HJ.out; have := HCS.out; omega)]; rfl, HB.out⟩

def RISOK (kids : Eo) : Prop := ∀ (k i c : Int) (t : Bs) (b : Dt) (cs : List Int) (bl : Option Addr) (bn bc : Nat) (cl : Option Addr) (cn cc : Nat) (l : Option Addr) (n cap : Nat) (k' i' c' : Int) (t' : Bs) (b' : Dt) (bl' : Option Addr) (bn' bc' : Nat) (cl' : Option Addr) (cn' cc' : Nat) (l' : Option Addr) (n' cap' : Nat) (S : Nat → Prop) (w : World),
  ErAt S w ⟨k, i, c, t, b, cs, kids⟩ bl bn bc cl cn cc l n cap → FoAt S w b'.l bl' bn' bc' → (∀ x, S x → x < w.heap.size) → (k = 5 → okB b) → okL kids → (k' = 5 → okB b') →
  Calls Tryz.prog 54 #[vE k i c t b bl bn bc cl cn cc l n cap, vE k' i' c' t' b' bl' bn' bc' cl' cn' cc' l' n' cap'] w (fun e w' => e = .returned (.tuple #[.bool (is1 ⟨k', i', c', t', b', [], .nil⟩ k i c t b cs kids).1, .int .i64 (is1 ⟨k', i', c', t', b', [], .nil⟩ k i c t b cs kids).2]) ∧ Below w.heap.size w w')
def RisRel (T : Et) (kids : Eo) (w : World) (res : Bool × Int) (t36 : Value) (wr : World) : Prop :=
  ∃ (dn rest : Eo), t36 = .int .i64 (dn.len : Nat) ∧ kids = dn.app rest ∧ Below w.heap.size w wr ∧ isL T rest = res

set_option maxRecDepth 100000 in
set_option maxHeartbeats 32000000 in
theorem erisN {kids : Eo} (hall : kids.All RISOK) : RISOK kids := by
  intro k i c t b cs bl bn bc cl cn cc l n cap k' i' c' t' b' bl' bn' bc' cl' cn' cc' l' n' cap' S w hE hG hS h5 hok h5'
  obtain ⟨hA, hA', hB, _⟩ := ebox2_facts w k i c t b bl bn bc cl cn cc l n cap k' i' c' t' b' bl' bn' bc' cl' cn' cc' l' n' cap'
  generalize hres : is1 ⟨k', i', c', t', b', [], .nil⟩ k i c t b cs kids = res
  have HC13 := Lib.hid (fun (wx : World) (hx : Below w.heap.size w wx) => ereqN (i := i) (c := c) (t := t) (cl := cl) (cn := cn) (cc := cc) (l := l) (n := n) (cap := cap) (i' := i') (c' := c') (t' := t') (cl' := cl') (cn' := cn') (cc' := cc') (l' := l') (n' := n') (cap' := cap') (hE.1.same (w' := wx) (fun x _ hlt => hx.block x hlt) (fun x hx2 _ => hx2)) (hG.same (w' := wx) (fun x _ hlt => hx.block x hlt) (fun x hx2 _ => hx2)) (fun x hx2 => Nat.lt_of_lt_of_le (hS x hx2) hx.size) h5 h5')
  have HC85 := Lib.hid (fun (wx : World) (hx : Below w.heap.size w wx) => saysN (k := k) (i := i) (c := c) (t := t) (b := b) (bl := bl) (bn := bn) (bc := bc) (l := l) (n := n) (cap := cap) (k' := k') (i' := i') (c' := c') (t' := t') (b' := b') (bl' := bl') (bn' := bn') (bc' := bc') (cl' := cl') (cn' := cn') (cc' := cc') (l' := l') (n' := n') (cap' := cap') (hE.same (w' := wx) (fun x _ hlt => hx.block x hlt) (fun x hx2 _ => hx2)).2.1.1)
  unfold vE at HC13 HC85 ⊢
  have HE := Lib.hid (And.intro hE hG)
  have HS := Lib.hid hS
  have HOK := Lib.hid (And.intro hok h5')
  have HALL := Lib.hid hall
  go_enter Tryz.func54, Tryz.ntmps54
  go_upto_region 1 with (fail)
  change Code.wp _ _ _ _ (ebox2 w k i c t b bl bn bc cl cn cc l n cap k' i' c' t' b' bl' bn' bc' cl' cn' cc' l' n' cap')
  generalize ebox2 w k i c t b bl bn bc cl cn cc l n cap k' i' c' t' b' bl' bn' bc' cl' cn' cc' l' n' cap' = w1 at *
  obtain ⟨q, hqq⟩ : ∃ x, x = w.heap.size + 1 := ⟨_, rfl⟩
  obtain ⟨p, hpp⟩ : ∃ x, x = w.heap.size := ⟨_, rfl⟩
  rw [← hqq] at hA'
  rw [← hpp] at hA
  rw [← hqq, ← hpp]
  have x0 := hA.cell 0 rfl; have y0 := hA'.cell 0 rfl
  have x1 := hA.cell 1 rfl; have y1 := hA'.cell 1 rfl
  have x2 := hA.cell 2 rfl; have y2 := hA'.cell 2 rfl
  have x3 := hA.cell 3 rfl; have y3 := hA'.cell 3 rfl
  have x4 := hA.cell 4 rfl; have y4 := hA'.cell 4 rfl
  have x5 := hA.cell 5 rfl; have y5 := hA'.cell 5 rfl
  have x6 := hA.cell 6 rfl; have y6 := hA'.cell 6 rfl
  have x7 := hA.cell 7 rfl; have y7 := hA'.cell 7 rfl
  have x8 := hA.cell 8 rfl; have y8 := hA'.cell 8 rfl
  have x9 := hA.cell 9 rfl; have y9 := hA'.cell 9 rfl
  have x10 := hA.cell 10 rfl; have y10 := hA'.cell 10 rfl
  have HX := Lib.hid (And.intro hA hA')
  have HB := Lib.hid hB
  have HRES := Lib.hid hres
  clear hE hG hS h5 hok h5' hall hA hA' hB hqq hpp hres
  by_cases h0 : k = 0
  · have e0 : (k == 0) = true := by simp [h0]
    have HE2 := Lib.hid (show (false, (0 : Int)) = res by rw [← HRES.out]; unfold is1; rw [if_pos h0])
    clear h0 HRES
    go_wp2_with fail
    go_ret2
    exact ⟨by rw [← HE2.out]; rfl, HB.out⟩
  have e0 : (k == 0) = false := by simpa using h0
  have HR1 := Lib.hid (show (if decd (isHead ⟨k', i', c', t', b', [], .nil⟩ k i c t b cs) then isHead ⟨k', i', c', t', b', [], .nil⟩ k i c t b cs else isL ⟨k', i', c', t', b', [], .nil⟩ kids) = res by rw [← HRES.out]; unfold is1; rw [if_neg h0])
  clear h0 HRES
  by_cases h6 : k' = 6
  · have n6 : (k' != 6) = false := by simp [h6]
    have HR2 := Lib.hid (show (if saysM k cs k' c' then (true, (0 : Int)) else isL ⟨k', i', c', t', b', [], .nil⟩ kids) = res by
      rw [← HR1.out]
      have hh : isHead ⟨k', i', c', t', b', [], .nil⟩ k i c t b cs = (saysM k cs k' c', 0) := by
        unfold isHead
        rw [if_pos h6]
        rfl
      rw [hh]
      cases saysM k cs k' c' <;> rfl)
    clear h6 HR1 HC13
    go_upto_region 7 with fail
    have hsy : saysM k cs k' c' = saysM k cs k' c' := rfl
    generalize saysM k cs k' c' = sy at *
    clear hsy
    cases sy
    rotate_left
    · go_wp2_with (go_at_call 85; (with_reducible refine (HC85.out _ HB.out).mono ?_); rintro e85 w85 ⟨rfl, hb⟩; have HB85 := Lib.hid (HB.out.trans (hb.mono HB.out.size)); clear hb)
      go_ret2
      exact ⟨by rw [← HR2.out]; rfl, HB85.out⟩
    · have HR3 := Lib.hid (show isL ⟨k', i', c', t', b', [], .nil⟩ kids = res from by rw [← HR2.out]; rfl)
      clear HR2
      go_upto_region 9 with (go_at_call 85; (with_reducible refine (HC85.out _ HB.out).mono ?_); rintro e85 w85 ⟨rfl, hb⟩; have HB85 := Lib.hid (HB.out.trans (hb.mono HB.out.size)); have hx := HX.out.1.below hb; have hy := HX.out.2.below hb; have zz10 := hx.cell 10 rfl; have HX85 := Lib.hid (And.intro hx hy); clear hb hx hy x0 y0 x1 y1 x2 y2 x3 y3 x4 y4 x5 y5 x6 y6 x7 y7 x8 y8 x9 y9 x10 y10)
      generalize hTT : (⟨k', i', c', t', b', [], .nil⟩ : Et) = T at *
      have HTT := Lib.hid hTT
      clear hTT HX HB HC85
      go_wp2_with fail
      go_loopw [36] (fun t36 wr => RisRel T kids w res t36 wr ∧ Below w85.heap.size w85 wr) (fun t36 _ => n - (intOf t36).toNat)
      case atStart => exact ⟨⟨.nil, kids, rfl, rfl, HB85.out, HR3.out⟩, Below.refl _ _⟩
      case round =>
        obtain ⟨⟨dn, rest, rfl, hk, hBw, hq⟩, hB1⟩ := hrel
        have HBw := Lib.hid hBw
        have HB1 := Lib.hid hB1
        have hF := (HE.out.1.same (w' := wr) (fun x hx hlt => hBw.block x hlt) (fun x hx _ => hx)).2.2
        have hGw := HE.out.2.same (w' := wr) (fun x hx hlt => hBw.block x hlt) (fun x hx _ => hx)
        have c10 := (HX85.out.1.below hB1).cell 10 rfl
        have hy := HX85.out.2.below hB1
        have hlen := hF.len
        rw [show (Et.l ⟨k, i, c, t, b, cs, kids⟩) = kids from rfl, hk, Eo.len_app] at hlen
        clear hBw hB1 zz10
        cases rest with
        | nil =>
          have hj : ¬ (dn.len : Int) < (n : Int) := by have : Eo.len .nil = 0 := rfl; omega
          have HQ := Lib.hid hq
          clear hq hk hlen hF hGw hy
          go_wp2_with fail
          go_ret2
          exact ⟨by rw [← HQ.out]; rfl, HBw.out⟩
        | cons k2 i2 c2 t2 b2 cs2 ks r2 =>
          have hlr : (Eo.cons k2 i2 c2 t2 b2 cs2 ks r2).len = r2.len + 1 := rfl
          rw [show (Et.l ⟨k, i, c, t, b, cs, kids⟩) = kids from rfl, hk] at hF
          obtain ⟨bb, off, bl2, bn2, bc2, cl2, cn2, cc2, a2, n2, cp2, rfl, hkF, he, hnb2, hjn⟩ := hF.elem
          have e0 := he 0 (by omega)
          have e1 := he 1 (by omega)
          have e2 := he 2 (by omega)
          have e3 := he 3 (by omega)
          have e4 := he 4 (by omega)
          have e5 := he 5 (by omega)
          have e6 := he 6 (by omega)
          have e7 := he 7 (by omega)
          have e8 := he 8 (by omega)
          have e9 := he 9 (by omega)
          have e10 := he 10 (by omega)
          simp only [V11, List.getElem?_cons_zero, List.getElem?_cons_succ, Nat.add_zero] at e0 e1 e2 e3 e4 e5 e6 e7 e8 e9 e10
          have hj : (dn.len : Int) < (n : Int) := by omega
          have hOK : RISOK ks := by
            have hal := HALL.out
            rw [hk] at hal
            exact (Eo.All.split dn hal).1
          have hokk : okL (.cons k2 i2 c2 t2 b2 cs2 ks r2) := by
            have h := HOK.out.1
            rw [hk] at h
            exact okL_app dn h
          rw [isL_cons] at hq
          have HC := Lib.hid (fun (wx : World) (hx : Below wr.heap.size wr wx) => show Calls Tryz.prog 54 #[vE k2 i2 c2 t2 b2 bl2 bn2 bc2 cl2 cn2 cc2 a2 n2 cp2, vE k' i' c' t' b' bl' bn' bc' cl' cn' cc' l' n' cap'] wx (fun e w' => e = .returned (.tuple #[.bool (is1 T k2 i2 c2 t2 b2 cs2 ks).1, .int .i64 (is1 T k2 i2 c2 t2 b2 cs2 ks).2]) ∧ Below wx.heap.size wx w') from by
            rw [← HTT.out]
            exact hOK k2 i2 c2 t2 b2 cs2 bl2 bn2 bc2 cl2 cn2 cc2 a2 n2 cp2 k' i' c' t' b' bl' bn' bc' cl' cn' cc' l' n' cap' S wx (hkF.same (w' := wx) (fun x _ hlt => hx.block x hlt) (fun x hx2 _ => hx2)) (hGw.same (w' := wx) (fun x _ hlt => hx.block x hlt) (fun x hx2 _ => hx2)) (fun x hx2 => Nat.lt_of_lt_of_le (HS.out x hx2) (Nat.le_trans HBw.out.size hx.size)) hokk.1 hokk.2.1 HOK.out.2)
          unfold vE at HC
          have HKEEP := Lib.hid (show ∀ wx, Below wr.heap.size wr wx → (wx.cell? ⟨p, 10, none⟩ = some (.slice (some ⟨bb, off, none⟩) n cap) ∧ (wx.cell? ⟨q, 0, none⟩ = some (.int .i64 k') ∧ wx.cell? ⟨q, 1, none⟩ = some (.int .i64 i') ∧ wx.cell? ⟨q, 2, none⟩ = some (.int .i64 c') ∧ wx.cell? ⟨q, 3, none⟩ = some (.string ⟨t'.toArray⟩) ∧ wx.cell? ⟨q, 4, none⟩ = some (.int .i64 b'.k) ∧ wx.cell? ⟨q, 5, none⟩ = some (.int .i64 b'.i) ∧ wx.cell? ⟨q, 6, none⟩ = some (.int .u64 b'.b) ∧ wx.cell? ⟨q, 7, none⟩ = some (.string ⟨b'.t.toArray⟩) ∧ wx.cell? ⟨q, 8, none⟩ = some (.slice bl' bn' bc') ∧ wx.cell? ⟨q, 9, none⟩ = some (.slice cl' cn' cc') ∧ wx.cell? ⟨q, 10, none⟩ = some (.slice l' n' cap')) ∧ (wx.cell? ⟨bb, off + dn.len * 11, none⟩ = some (.int .i64 k2) ∧ wx.cell? ⟨bb, off + dn.len * 11 + 1, none⟩ = some (.int .i64 i2) ∧ wx.cell? ⟨bb, off + dn.len * 11 + 2, none⟩ = some (.int .i64 c2) ∧ wx.cell? ⟨bb, off + dn.len * 11 + 3, none⟩ = some (.string ⟨t2.toArray⟩) ∧ wx.cell? ⟨bb, off + dn.len * 11 + 4, none⟩ = some (.int .i64 b2.k) ∧ wx.cell? ⟨bb, off + dn.len * 11 + 5, none⟩ = some (.int .i64 b2.i) ∧ wx.cell? ⟨bb, off + dn.len * 11 + 6, none⟩ = some (.int .u64 b2.b) ∧ wx.cell? ⟨bb, off + dn.len * 11 + 7, none⟩ = some (.string ⟨b2.t.toArray⟩) ∧ wx.cell? ⟨bb, off + dn.len * 11 + 8, none⟩ = some (.slice bl2 bn2 bc2) ∧ wx.cell? ⟨bb, off + dn.len * 11 + 9, none⟩ = some (.slice cl2 cn2 cc2) ∧ wx.cell? ⟨bb, off + dn.len * 11 + 10, none⟩ = some (.slice a2 n2 cp2))) from
            fun wx hx => ⟨cellAt hx c10, ⟨(hy.below hx).cell 0 rfl, (hy.below hx).cell 1 rfl, (hy.below hx).cell 2 rfl, (hy.below hx).cell 3 rfl, (hy.below hx).cell 4 rfl, (hy.below hx).cell 5 rfl, (hy.below hx).cell 6 rfl, (hy.below hx).cell 7 rfl, (hy.below hx).cell 8 rfl, (hy.below hx).cell 9 rfl, (hy.below hx).cell 10 rfl⟩, ⟨cellAt hx e0, cellAt hx e1, cellAt hx e2, cellAt hx e3, cellAt hx e4, cellAt hx e5, cellAt hx e6, cellAt hx e7, cellAt hx e8, cellAt hx e9, cellAt hx e10⟩⟩)
          have hN2 := is1_nrm T k2 i2 c2 t2 b2 cs2 ks
          generalize is1 T k2 i2 c2 t2 b2 cs2 ks = r at *
          have HKK := Lib.hid hk
          have HJ := Lib.hid hjn
          have HQ := Lib.hid hq
          clear hkF hOK hokk hk hq hlen hF hGw hy hlr he c10 e0 e1 e2 e3 e4 e5 e6 e7 e8 e9 e10
          generalize hjj : dn.len = j at *
          have HJJ := Lib.hid hjj
          clear hjj
          rcases hN2 with rfl | rfl | rfl
          · go_upto_region 12 with fail
            go_region_held3 (fun wx : World => wx.cell? ⟨p, 10, none⟩ = some (.slice (some ⟨bb, off, none⟩) n cap) ∧ (wx.cell? ⟨q, 0, none⟩ = some (.int .i64 k') ∧ wx.cell? ⟨q, 1, none⟩ = some (.int .i64 i') ∧ wx.cell? ⟨q, 2, none⟩ = some (.int .i64 c') ∧ wx.cell? ⟨q, 3, none⟩ = some (.string ⟨t'.toArray⟩) ∧ wx.cell? ⟨q, 4, none⟩ = some (.int .i64 b'.k) ∧ wx.cell? ⟨q, 5, none⟩ = some (.int .i64 b'.i) ∧ wx.cell? ⟨q, 6, none⟩ = some (.int .u64 b'.b) ∧ wx.cell? ⟨q, 7, none⟩ = some (.string ⟨b'.t.toArray⟩) ∧ wx.cell? ⟨q, 8, none⟩ = some (.slice bl' bn' bc') ∧ wx.cell? ⟨q, 9, none⟩ = some (.slice cl' cn' cc') ∧ wx.cell? ⟨q, 10, none⟩ = some (.slice l' n' cap')) ∧ (wx.cell? ⟨bb, off + j * 11, none⟩ = some (.int .i64 k2) ∧ wx.cell? ⟨bb, off + j * 11 + 1, none⟩ = some (.int .i64 i2) ∧ wx.cell? ⟨bb, off + j * 11 + 2, none⟩ = some (.int .i64 c2) ∧ wx.cell? ⟨bb, off + j * 11 + 3, none⟩ = some (.string ⟨t2.toArray⟩) ∧ wx.cell? ⟨bb, off + j * 11 + 4, none⟩ = some (.int .i64 b2.k) ∧ wx.cell? ⟨bb, off + j * 11 + 5, none⟩ = some (.int .i64 b2.i) ∧ wx.cell? ⟨bb, off + j * 11 + 6, none⟩ = some (.int .u64 b2.b) ∧ wx.cell? ⟨bb, off + j * 11 + 7, none⟩ = some (.string ⟨b2.t.toArray⟩) ∧ wx.cell? ⟨bb, off + j * 11 + 8, none⟩ = some (.slice bl2 bn2 bc2) ∧ wx.cell? ⟨bb, off + j * 11 + 9, none⟩ = some (.slice cl2 cn2 cc2) ∧ wx.cell? ⟨bb, off + j * 11 + 10, none⟩ = some (.slice a2 n2 cp2)))
              (first | exact HKEEP.out _ (Below.refl _ _) | exact HKEEP.out _ (Below.refl _ _).drew | exact HKEEP.out _ HBA2.out)
              (first
                | (go_simp; go_at_call 54; (with_reducible refine (HC.out _ (Below.refl _ _).drew).mono ?_); rintro eA wA2 ⟨rfl, hbA⟩; have HBA2 := Lib.hid ((Below.refl wr.heap.size wr).drew.trans hbA); clear hbA))
            all_goals
              go_wp2_with fail
              go_ret2
              exact ⟨by rw [← HQ.out]; rfl, HBw.out.trans (HBA2.out.mono HBw.out.size)⟩
          · go_upto_region 12 with fail
            go_region_held3 (fun wx : World => wx.cell? ⟨p, 10, none⟩ = some (.slice (some ⟨bb, off, none⟩) n cap) ∧ (wx.cell? ⟨q, 0, none⟩ = some (.int .i64 k') ∧ wx.cell? ⟨q, 1, none⟩ = some (.int .i64 i') ∧ wx.cell? ⟨q, 2, none⟩ = some (.int .i64 c') ∧ wx.cell? ⟨q, 3, none⟩ = some (.string ⟨t'.toArray⟩) ∧ wx.cell? ⟨q, 4, none⟩ = some (.int .i64 b'.k) ∧ wx.cell? ⟨q, 5, none⟩ = some (.int .i64 b'.i) ∧ wx.cell? ⟨q, 6, none⟩ = some (.int .u64 b'.b) ∧ wx.cell? ⟨q, 7, none⟩ = some (.string ⟨b'.t.toArray⟩) ∧ wx.cell? ⟨q, 8, none⟩ = some (.slice bl' bn' bc') ∧ wx.cell? ⟨q, 9, none⟩ = some (.slice cl' cn' cc') ∧ wx.cell? ⟨q, 10, none⟩ = some (.slice l' n' cap')) ∧ (wx.cell? ⟨bb, off + j * 11, none⟩ = some (.int .i64 k2) ∧ wx.cell? ⟨bb, off + j * 11 + 1, none⟩ = some (.int .i64 i2) ∧ wx.cell? ⟨bb, off + j * 11 + 2, none⟩ = some (.int .i64 c2) ∧ wx.cell? ⟨bb, off + j * 11 + 3, none⟩ = some (.string ⟨t2.toArray⟩) ∧ wx.cell? ⟨bb, off + j * 11 + 4, none⟩ = some (.int .i64 b2.k) ∧ wx.cell? ⟨bb, off + j * 11 + 5, none⟩ = some (.int .i64 b2.i) ∧ wx.cell? ⟨bb, off + j * 11 + 6, none⟩ = some (.int .u64 b2.b) ∧ wx.cell? ⟨bb, off + j * 11 + 7, none⟩ = some (.string ⟨b2.t.toArray⟩) ∧ wx.cell? ⟨bb, off + j * 11 + 8, none⟩ = some (.slice bl2 bn2 bc2) ∧ wx.cell? ⟨bb, off + j * 11 + 9, none⟩ = some (.slice cl2 cn2 cc2) ∧ wx.cell? ⟨bb, off + j * 11 + 10, none⟩ = some (.slice a2 n2 cp2)))
              (first | exact HKEEP.out _ (Below.refl _ _) | exact HKEEP.out _ (Below.refl _ _).drew | exact HKEEP.out _ HBA2.out)
              (first
                | (go_simp; go_at_call 54; (with_reducible refine (HC.out _ (Below.refl _ _).drew).mono ?_); rintro eA wA2 ⟨rfl, hbA⟩; have HBA2 := Lib.hid ((Below.refl wr.heap.size wr).drew.trans hbA); clear hbA))
            all_goals
              go_wp2_with fail
              go_roundw
              case rel =>
                refine ⟨⟨dn.app (.cons k2 i2 c2 t2 b2 cs2 ks .nil), r2, ?_, ?_, HBw.out.trans (HBA2.out.mono HBw.out.size), by rw [← HQ.out]; rfl⟩, HB1.out.trans (HBA2.out.mono HB1.out.size)⟩
                · rw [Eo.len_app, HJJ.out, show (Eo.cons k2 i2 c2 t2 b2 cs2 ks .nil).len = 1 from rfl]; go_num
                · rw [Eo.app_assoc]; exact HKK.out
              case measure => simp [intOf]; have := HJ.out; omega
          · go_upto_region 12 with fail
            go_region_held3 (fun wx : World => wx.cell? ⟨p, 10, none⟩ = some (.slice (some ⟨bb, off, none⟩) n cap) ∧ (wx.cell? ⟨q, 0, none⟩ = some (.int .i64 k') ∧ wx.cell? ⟨q, 1, none⟩ = some (.int .i64 i') ∧ wx.cell? ⟨q, 2, none⟩ = some (.int .i64 c') ∧ wx.cell? ⟨q, 3, none⟩ = some (.string ⟨t'.toArray⟩) ∧ wx.cell? ⟨q, 4, none⟩ = some (.int .i64 b'.k) ∧ wx.cell? ⟨q, 5, none⟩ = some (.int .i64 b'.i) ∧ wx.cell? ⟨q, 6, none⟩ = some (.int .u64 b'.b) ∧ wx.cell? ⟨q, 7, none⟩ = some (.string ⟨b'.t.toArray⟩) ∧ wx.cell? ⟨q, 8, none⟩ = some (.slice bl' bn' bc') ∧ wx.cell? ⟨q, 9, none⟩ = some (.slice cl' cn' cc') ∧ wx.cell? ⟨q, 10, none⟩ = some (.slice l' n' cap')) ∧ (wx.cell? ⟨bb, off + j * 11, none⟩ = some (.int .i64 k2) ∧ wx.cell? ⟨bb, off + j * 11 + 1, none⟩ = some (.int .i64 i2) ∧ wx.cell? ⟨bb, off + j * 11 + 2, none⟩ = some (.int .i64 c2) ∧ wx.cell? ⟨bb, off + j * 11 + 3, none⟩ = some (.string ⟨t2.toArray⟩) ∧ wx.cell? ⟨bb, off + j * 11 + 4, none⟩ = some (.int .i64 b2.k) ∧ wx.cell? ⟨bb, off + j * 11 + 5, none⟩ = some (.int .i64 b2.i) ∧ wx.cell? ⟨bb, off + j * 11 + 6, none⟩ = some (.int .u64 b2.b) ∧ wx.cell? ⟨bb, off + j * 11 + 7, none⟩ = some (.string ⟨b2.t.toArray⟩) ∧ wx.cell? ⟨bb, off + j * 11 + 8, none⟩ = some (.slice bl2 bn2 bc2) ∧ wx.cell? ⟨bb, off + j * 11 + 9, none⟩ = some (.slice cl2 cn2 cc2) ∧ wx.cell? ⟨bb, off + j * 11 + 10, none⟩ = some (.slice a2 n2 cp2)))
              (first | exact HKEEP.out _ (Below.refl _ _) | exact HKEEP.out _ (Below.refl _ _).drew | exact HKEEP.out _ HBA2.out)
              (first
                | (go_simp; go_at_call 54; (with_reducible refine (HC.out _ (Below.refl _ _).drew).mono ?_); rintro eA wA2 ⟨rfl, hbA⟩; have HBA2 := Lib.hid ((Below.refl wr.heap.size wr).drew.trans hbA); clear hbA))
            all_goals
              go_wp2_with fail
              go_ret2
              exact ⟨by rw [← HQ.out]; rfl, HBw.out.trans (HBA2.out.mono HBw.out.size)⟩
  have n6 : (k' != 6) = true := by simpa using h6
  have hN := eqE_nrm k i c t b k' i' c' t' b'
  have hh : isHead ⟨k', i', c', t', b', [], .nil⟩ k i c t b cs = (if decd (eqE k i c t b k' i' c' t' b') then eqE k i c t b k' i' c' t' b' else (saysM k cs k' c', 0)) := by
    unfold isHead
    rw [if_neg h6]
  have HH := Lib.hid hh
  clear hh h6
  generalize eqE k i c t b k' i' c' t' b' = r at *
  rcases hN with rfl | rfl | rfl
  · have HE2 := Lib.hid (show (true, (0 : Int)) = res by rw [← HR1.out, HH.out]; rfl)
    go_wp2_with (go_at_call 13; (with_reducible refine (HC13.out _ HB.out).mono ?_); rintro e13 w13 ⟨rfl, hb⟩; have HBA := Lib.hid hb; have HB13 := Lib.hid (HB.out.trans (hb.mono HB.out.size)); clear hb)
    go_ret2
    exact ⟨by rw [← HE2.out]; rfl, HB13.out⟩
  rotate_left
  · have HE2 := Lib.hid (show (false, (10 : Int)) = res by rw [← HR1.out, HH.out]; rfl)
    go_wp2_with (go_at_call 13; (with_reducible refine (HC13.out _ HB.out).mono ?_); rintro e13 w13 ⟨rfl, hb⟩; have HBA := Lib.hid hb; have HB13 := Lib.hid (HB.out.trans (hb.mono HB.out.size)); clear hb)
    go_ret2
    exact ⟨by rw [← HE2.out]; rfl, HB13.out⟩
  · have HR2 := Lib.hid (show (if saysM k cs k' c' then (true, (0 : Int)) else isL ⟨k', i', c', t', b', [], .nil⟩ kids) = res by
      rw [← HR1.out, HH.out]
      cases saysM k cs k' c' <;> rfl)
    clear HR1 HH
    go_upto_region 7 with (go_at_call 13; (with_reducible refine (HC13.out _ HB.out).mono ?_); rintro e13 w13 ⟨rfl, hb⟩; have HBA := Lib.hid hb; have HB13 := Lib.hid (HB.out.trans (hb.mono HB.out.size)); clear hb)
    clear x0 y0 x1 y1 x2 y2 x3 y3 x4 y4 x5 y5 x6 y6 x7 y7 x8 y8 x9 y9 x10 y10
    have HX := Lib.hid (And.intro (HX.out.1.below HBA.out) (HX.out.2.below HBA.out))
    have HB := HB13
    have x0 := HX.out.1.cell 0 rfl; have y0 := HX.out.2.cell 0 rfl
    have x1 := HX.out.1.cell 1 rfl; have y1 := HX.out.2.cell 1 rfl
    have x2 := HX.out.1.cell 2 rfl; have y2 := HX.out.2.cell 2 rfl
    have x3 := HX.out.1.cell 3 rfl; have y3 := HX.out.2.cell 3 rfl
    have x4 := HX.out.1.cell 4 rfl; have y4 := HX.out.2.cell 4 rfl
    have x5 := HX.out.1.cell 5 rfl; have y5 := HX.out.2.cell 5 rfl
    have x6 := HX.out.1.cell 6 rfl; have y6 := HX.out.2.cell 6 rfl
    have x7 := HX.out.1.cell 7 rfl; have y7 := HX.out.2.cell 7 rfl
    have x8 := HX.out.1.cell 8 rfl; have y8 := HX.out.2.cell 8 rfl
    have x9 := HX.out.1.cell 9 rfl; have y9 := HX.out.2.cell 9 rfl
    have x10 := HX.out.1.cell 10 rfl; have y10 := HX.out.2.cell 10 rfl
    go_upto_region 7 with fail
    have hsy : saysM k cs k' c' = saysM k cs k' c' := rfl
    generalize saysM k cs k' c' = sy at *
    clear hsy
    cases sy
    rotate_left
    · go_wp2_with (go_at_call 85; (with_reducible refine (HC85.out _ HB.out).mono ?_); rintro e85 w85 ⟨rfl, hb⟩; have HB85 := Lib.hid (HB.out.trans (hb.mono HB.out.size)); clear hb)
      go_ret2
      exact ⟨by rw [← HR2.out]; rfl, HB85.out⟩
    · have HR3 := Lib.hid (show isL ⟨k', i', c', t', b', [], .nil⟩ kids = res from by rw [← HR2.out]; rfl)
      clear HR2
      go_upto_region 9 with (go_at_call 85; (with_reducible refine (HC85.out _ HB.out).mono ?_); rintro e85 w85 ⟨rfl, hb⟩; have HB85 := Lib.hid (HB.out.trans (hb.mono HB.out.size)); have hx := HX.out.1.below hb; have hy := HX.out.2.below hb; have zz10 := hx.cell 10 rfl; have HX85 := Lib.hid (And.intro hx hy); clear hb hx hy x0 y0 x1 y1 x2 y2 x3 y3 x4 y4 x5 y5 x6 y6 x7 y7 x8 y8 x9 y9 x10 y10)
      generalize hTT : (⟨k', i', c', t', b', [], .nil⟩ : Et) = T at *
      have HTT := Lib.hid hTT
      clear hTT HX HB HC85
      go_wp2_with fail
      go_loopw [36] (fun t36 wr => RisRel T kids w res t36 wr ∧ Below w85.heap.size w85 wr) (fun t36 _ => n - (intOf t36).toNat)
      case atStart => exact ⟨⟨.nil, kids, rfl, rfl, HB85.out, HR3.out⟩, Below.refl _ _⟩
      case round =>
        obtain ⟨⟨dn, rest, rfl, hk, hBw, hq⟩, hB1⟩ := hrel
        have HBw := Lib.hid hBw
        have HB1 := Lib.hid hB1
        have hF := (HE.out.1.same (w' := wr) (fun x hx hlt => hBw.block x hlt) (fun x hx _ => hx)).2.2
        have hGw := HE.out.2.same (w' := wr) (fun x hx hlt => hBw.block x hlt) (fun x hx _ => hx)
        have c10 := (HX85.out.1.below hB1).cell 10 rfl
        have hy := HX85.out.2.below hB1
        have hlen := hF.len
        rw [show (Et.l ⟨k, i, c, t, b, cs, kids⟩) = kids from rfl, hk, Eo.len_app] at hlen
        clear hBw hB1 zz10
        cases rest with
        | nil =>
          have hj : ¬ (dn.len : Int) < (n : Int) := by have : Eo.len .nil = 0 := rfl; omega
          have HQ := Lib.hid hq
          clear hq hk hlen hF hGw hy
          go_wp2_with fail
          go_ret2
          exact ⟨by rw [← HQ.out]; rfl, HBw.out⟩
        | cons k2 i2 c2 t2 b2 cs2 ks r2 =>
          have hlr : (Eo.cons k2 i2 c2 t2 b2 cs2 ks r2).len = r2.len + 1 := rfl
          rw [show (Et.l ⟨k, i, c, t, b, cs, kids⟩) = kids from rfl, hk] at hF
          obtain ⟨bb, off, bl2, bn2, bc2, cl2, cn2, cc2, a2, n2, cp2, rfl, hkF, he, hnb2, hjn⟩ := hF.elem
          have e0 := he 0 (by omega)
          have e1 := he 1 (by omega)
          have e2 := he 2 (by omega)
          have e3 := he 3 (by omega)
          have e4 := he 4 (by omega)
          have e5 := he 5 (by omega)
          have e6 := he 6 (by omega)
          have e7 := he 7 (by omega)
          have e8 := he 8 (by omega)
          have e9 := he 9 (by omega)
          have e10 := he 10 (by omega)
          simp only [V11, List.getElem?_cons_zero, List.getElem?_cons_succ, Nat.add_zero] at e0 e1 e2 e3 e4 e5 e6 e7 e8 e9 e10
          have hj : (dn.len : Int) < (n : Int) := by omega
          have hOK : RISOK ks := by
            have hal := HALL.out
            rw [hk] at hal
            exact (Eo.All.split dn hal).1
          have hokk : okL (.cons k2 i2 c2 t2 b2 cs2 ks r2) := by
            have h := HOK.out.1
            rw [hk] at h
            exact okL_app dn h
          rw [isL_cons] at hq
          have HC := Lib.hid (fun (wx : World) (hx : Below wr.heap.size wr wx) => show Calls Tryz.prog 54 #[vE k2 i2 c2 t2 b2 bl2 bn2 bc2 cl2 cn2 cc2 a2 n2 cp2, vE k' i' c' t' b' bl' bn' bc' cl' cn' cc' l' n' cap'] wx (fun e w' => e = .returned (.tuple #[.bool (is1 T k2 i2 c2 t2 b2 cs2 ks).1, .int .i64 (is1 T k2 i2 c2 t2 b2 cs2 ks).2]) ∧ Below wx.heap.size wx w') from by
            rw [← HTT.out]
            exact hOK k2 i2 c2 t2 b2 cs2 bl2 bn2 bc2 cl2 cn2 cc2 a2 n2 cp2 k' i' c' t' b' bl' bn' bc' cl' cn' cc' l' n' cap' S wx (hkF.same (w' := wx) (fun x _ hlt => hx.block x hlt) (fun x hx2 _ => hx2)) (hGw.same (w' := wx) (fun x _ hlt => hx.block x hlt) (fun x hx2 _ => hx2)) (fun x hx2 => Nat.lt_of_lt_of_le (HS.out x hx2) (Nat.le_trans HBw.out.size hx.size)) hokk.1 hokk.2.1 HOK.out.2)
          unfold vE at HC
          have HKEEP := Lib.hid (show ∀ wx, Below wr.heap.size wr wx → (wx.cell? ⟨p, 10, none⟩ = some (.slice (some ⟨bb, off, none⟩) n cap) ∧ (wx.cell? ⟨q, 0, none⟩ = some (.int .i64 k') ∧ wx.cell? ⟨q, 1, none⟩ = some (.int .i64 i') ∧ wx.cell? ⟨q, 2, none⟩ = some (.int .i64 c') ∧ wx.cell? ⟨q, 3, none⟩ = some (.string ⟨t'.toArray⟩) ∧ wx.cell? ⟨q, 4, none⟩ = some (.int .i64 b'.k) ∧ wx.cell? ⟨q, 5, none⟩ = some (.int .i64 b'.i) ∧ wx.cell? ⟨q, 6, none⟩ = some (.int .u64 b'.b) ∧ wx.cell? ⟨q, 7, none⟩ = some (.string ⟨b'.t.toArray⟩) ∧ wx.cell? ⟨q, 8, none⟩ = some (.slice bl' bn' bc') ∧ wx.cell? ⟨q, 9, none⟩ = some (.slice cl' cn' cc') ∧ wx.cell? ⟨q, 10, none⟩ = some (.slice l' n' cap')) ∧ (wx.cell? ⟨bb, off + dn.len * 11, none⟩ = some (.int .i64 k2) ∧ wx.cell? ⟨bb, off + dn.len * 11 + 1, none⟩ = some (.int .i64 i2) ∧ wx.cell? ⟨bb, off + dn.len * 11 + 2, none⟩ = some (.int .i64 c2) ∧ wx.cell? ⟨bb, off + dn.len * 11 + 3, none⟩ = some (.string ⟨t2.toArray⟩) ∧ wx.cell? ⟨bb, off + dn.len * 11 + 4, none⟩ = some (.int .i64 b2.k) ∧ wx.cell? ⟨bb, off + dn.len * 11 + 5, none⟩ = some (.int .i64 b2.i) ∧ wx.cell? ⟨bb, off + dn.len * 11 + 6, none⟩ = some (.int .u64 b2.b) ∧ wx.cell? ⟨bb, off + dn.len * 11 + 7, none⟩ = some (.string ⟨b2.t.toArray⟩) ∧ wx.cell? ⟨bb, off + dn.len * 11 + 8, none⟩ = some (.slice bl2 bn2 bc2) ∧ wx.cell? ⟨bb, off + dn.len * 11 + 9, none⟩ = some (.slice cl2 cn2 cc2) ∧ wx.cell? ⟨bb, off + dn.len * 11 + 10, none⟩ = some (.slice a2 n2 cp2))) from
            fun wx hx => ⟨cellAt hx c10, ⟨(hy.below hx).cell 0 rfl, (hy.below hx).cell 1 rfl, (hy.below hx).cell 2 rfl, (hy.below hx).cell 3 rfl, (hy.below hx).cell 4 rfl, (hy.below hx).cell 5 rfl, (hy.below hx).cell 6 rfl, (hy.below hx).cell 7 rfl, (hy.below hx).cell 8 rfl, (hy.below hx).cell 9 rfl, (hy.below hx).cell 10 rfl⟩, ⟨cellAt hx e0, cellAt hx e1, cellAt hx e2, cellAt hx e3, cellAt hx e4, cellAt hx e5, cellAt hx e6, cellAt hx e7, cellAt hx e8, cellAt hx e9, cellAt hx e10⟩⟩)
          have hN2 := is1_nrm T k2 i2 c2 t2 b2 cs2 ks
          generalize is1 T k2 i2 c2 t2 b2 cs2 ks = r at *
          have HKK := Lib.hid hk
          have HJ := Lib.hid hjn
          have HQ := Lib.hid hq
          clear hkF hOK hokk hk hq hlen hF hGw hy hlr he c10 e0 e1 e2 e3 e4 e5 e6 e7 e8 e9 e10
          generalize hjj : dn.len = j at *
          have HJJ := Lib.hid hjj
          clear hjj
          rcases hN2 with rfl | rfl | rfl
          · go_upto_region 12 with fail
            go_region_held3 (fun wx : World => wx.cell? ⟨p, 10, none⟩ = some (.slice (some ⟨bb, off, none⟩) n cap) ∧ (wx.cell? ⟨q, 0, none⟩ = some (.int .i64 k') ∧ wx.cell? ⟨q, 1, none⟩ = some (.int .i64 i') ∧ wx.cell? ⟨q, 2, none⟩ = some (.int .i64 c') ∧ wx.cell? ⟨q, 3, none⟩ = some (.string ⟨t'.toArray⟩) ∧ wx.cell? ⟨q, 4, none⟩ = some (.int .i64 b'.k) ∧ wx.cell? ⟨q, 5, none⟩ = some (.int .i64 b'.i) ∧ wx.cell? ⟨q, 6, none⟩ = some (.int .u64 b'.b) ∧ wx.cell? ⟨q, 7, none⟩ = some (.string ⟨b'.t.toArray⟩) ∧ wx.cell? ⟨q, 8, none⟩ = some (.slice bl' bn' bc') ∧ wx.cell? ⟨q, 9, none⟩ = some (.slice cl' cn' cc') ∧ wx.cell? ⟨q, 10, none⟩ = some (.slice l' n' cap')) ∧ (wx.cell? ⟨bb, off + j * 11, none⟩ = some (.int .i64 k2) ∧ wx.cell? ⟨bb, off + j * 11 + 1, none⟩ = some (.int .i64 i2) ∧ wx.cell? ⟨bb, off + j * 11 + 2, none⟩ = some (.int .i64 c2) ∧ wx.cell? ⟨bb, off + j * 11 + 3, none⟩ = some (.string ⟨t2.toArray⟩) ∧ wx.cell? ⟨bb, off + j * 11 + 4, none⟩ = some (.int .i64 b2.k) ∧ wx.cell? ⟨bb, off + j * 11 + 5, none⟩ = some (.int .i64 b2.i) ∧ wx.cell? ⟨bb, off + j * 11 + 6, none⟩ = some (.int .u64 b2.b) ∧ wx.cell? ⟨bb, off + j * 11 + 7, none⟩ = some (.string ⟨b2.t.toArray⟩) ∧ wx.cell? ⟨bb, off + j * 11 + 8, none⟩ = some (.slice bl2 bn2 bc2) ∧ wx.cell? ⟨bb, off + j * 11 + 9, none⟩ = some (.slice cl2 cn2 cc2) ∧ wx.cell? ⟨bb, off + j * 11 + 10, none⟩ = some (.slice a2 n2 cp2)))
              (first | exact HKEEP.out _ (Below.refl _ _) | exact HKEEP.out _ (Below.refl _ _).drew | exact HKEEP.out _ HBA2.out)
              (first
                | (go_simp; go_at_call 54; (with_reducible refine (HC.out _ (Below.refl _ _).drew).mono ?_); rintro eA wA2 ⟨rfl, hbA⟩; have HBA2 := Lib.hid ((Below.refl wr.heap.size wr).drew.trans hbA); clear hbA))
            all_goals
              go_wp2_with fail
              go_ret2
              exact ⟨by rw [← HQ.out]; rfl, HBw.out.trans (HBA2.out.mono HBw.out.size)⟩
          · go_upto_region 12 with fail
            go_region_held3 (fun wx : World => wx.cell? ⟨p, 10, none⟩ = some (.slice (some ⟨bb, off, none⟩) n cap) ∧ (wx.cell? ⟨q, 0, none⟩ = some (.int .i64 k') ∧ wx.cell? ⟨q, 1, none⟩ = some (.int .i64 i') ∧ wx.cell? ⟨q, 2, none⟩ = some (.int .i64 c') ∧ wx.cell? ⟨q, 3, none⟩ = some (.string ⟨t'.toArray⟩) ∧ wx.cell? ⟨q, 4, none⟩ = some (.int .i64 b'.k) ∧ wx.cell? ⟨q, 5, none⟩ = some (.int .i64 b'.i) ∧ wx.cell? ⟨q, 6, none⟩ = some (.int .u64 b'.b) ∧ wx.cell? ⟨q, 7, none⟩ = some (.string ⟨b'.t.toArray⟩) ∧ wx.cell? ⟨q, 8, none⟩ = some (.slice bl' bn' bc') ∧ wx.cell? ⟨q, 9, none⟩ = some (.slice cl' cn' cc') ∧ wx.cell? ⟨q, 10, none⟩ = some (.slice l' n' cap')) ∧ (wx.cell? ⟨bb, off + j * 11, none⟩ = some (.int .i64 k2) ∧ wx.cell? ⟨bb, off + j * 11 + 1, none⟩ = some (.int .i64 i2) ∧ wx.cell? ⟨bb, off + j * 11 + 2, none⟩ = some (.int .i64 c2) ∧ wx.cell? ⟨bb, off + j * 11 + 3, none⟩ = some (.string ⟨t2.toArray⟩) ∧ wx.cell? ⟨bb, off + j * 11 + 4, none⟩ = some (.int .i64 b2.k) ∧ wx.cell? ⟨bb, off + j * 11 + 5, none⟩ = some (.int .i64 b2.i) ∧ wx.cell? ⟨bb, off + j * 11 + 6, none⟩ = some (.int .u64 b2.b) ∧ wx.cell? ⟨bb, off + j * 11 + 7, none⟩ = some (.string ⟨b2.t.toArray⟩) ∧ wx.cell? ⟨bb, off + j * 11 + 8, none⟩ = some (.slice bl2 bn2 bc2) ∧ wx.cell? ⟨bb, off + j * 11 + 9, none⟩ = some (.slice cl2 cn2 cc2) ∧ wx.cell? ⟨bb, off + j * 11 + 10, none⟩ = some (.slice a2 n2 cp2)))
              (first | exact HKEEP.out _ (Below.refl _ _) | exact HKEEP.out _ (Below.refl _ _).drew | exact HKEEP.out _ HBA2.out)
              (first
                | (go_simp; go_at_call 54; (with_reducible refine (HC.out _ (Below.refl _ _).drew).mono ?_); rintro eA wA2 ⟨rfl, hbA⟩; have HBA2 := Lib.hid ((Below.refl wr.heap.size wr).drew.trans hbA); clear hbA))
            all_goals
              go_wp2_with fail
              go_roundw
              case rel =>
                refine ⟨⟨dn.app (.cons k2 i2 c2 t2 b2 cs2 ks .nil), r2, ?_, ?_, HBw.out.trans (HBA2.out.mono HBw.out.size), by rw [← HQ.out]; rfl⟩, HB1.out.trans (HBA2.out.mono HB1.out.size)⟩
                · rw [Eo.len_app, HJJ.out, show (Eo.cons k2 i2 c2 t2 b2 cs2 ks .nil).len = 1 from rfl]; go_num
                · rw [Eo.app_assoc]; exact HKK.out
              case measure => simp [intOf]; have := HJ.out; omega
          · go_upto_region 12 with fail
            go_region_held3 (fun wx : World => wx.cell? ⟨p, 10, none⟩ = some (.slice (some ⟨bb, off, none⟩) n cap) ∧ (wx.cell? ⟨q, 0, none⟩ = some (.int .i64 k') ∧ wx.cell? ⟨q, 1, none⟩ = some (.int .i64 i') ∧ wx.cell? ⟨q, 2, none⟩ = some (.int .i64 c') ∧ wx.cell? ⟨q, 3, none⟩ = some (.string ⟨t'.toArray⟩) ∧ wx.cell? ⟨q, 4, none⟩ = some (.int .i64 b'.k) ∧ wx.cell? ⟨q, 5, none⟩ = some (.int .i64 b'.i) ∧ wx.cell? ⟨q, 6, none⟩ = some (.int .u64 b'.b) ∧ wx.cell? ⟨q, 7, none⟩ = some (.string ⟨b'.t.toArray⟩) ∧ wx.cell? ⟨q, 8, none⟩ = some (.slice bl' bn' bc') ∧ wx.cell? ⟨q, 9, none⟩ = some (.slice cl' cn' cc') ∧ wx.cell? ⟨q, 10, none⟩ = some (.slice l' n' cap')) ∧ (wx.cell? ⟨bb, off + j * 11, none⟩ = some (.int .i64 k2) ∧ wx.cell? ⟨bb, off + j * 11 + 1, none⟩ = some (.int .i64 i2) ∧ wx.cell? ⟨bb, off + j * 11 + 2, none⟩ = some (.int .i64 c2) ∧ wx.cell? ⟨bb, off + j * 11 + 3, none⟩ = some (.string ⟨t2.toArray⟩) ∧ wx.cell? ⟨bb, off + j * 11 + 4, none⟩ = some (.int .i64 b2.k) ∧ wx.cell? ⟨bb, off + j * 11 + 5, none⟩ = some (.int .i64 b2.i) ∧ wx.cell? ⟨bb, off + j * 11 + 6, none⟩ = some (.int .u64 b2.b) ∧ wx.cell? ⟨bb, off + j * 11 + 7, none⟩ = some (.string ⟨b2.t.toArray⟩) ∧ wx.cell? ⟨bb, off + j * 11 + 8, none⟩ = some (.slice bl2 bn2 bc2) ∧ wx.cell? ⟨bb, off + j * 11 + 9, none⟩ = some (.slice cl2 cn2 cc2) ∧ wx.cell? ⟨bb, off + j * 11 + 10, none⟩ = some (.slice a2 n2 cp2)))
              (first | exact HKEEP.out _ (Below.refl _ _) | exact HKEEP.out _ (Below.refl _ _).drew | exact HKEEP.out _ HBA2.out)
              (first
                | (go_simp; go_at_call 54; (with_reducible refine (HC.out _ (Below.refl _ _).drew).mono ?_); rintro eA wA2 ⟨rfl, hbA⟩; have HBA2 := Lib.hid ((Below.refl wr.heap.size wr).drew.trans hbA); clear hbA))
            all_goals
              go_wp2_with fail
              go_ret2
              exact ⟨by rw [← HQ.out]; rfl, HBw.out.trans (HBA2.out.mono HBw.out.size)⟩
theorem erisAll : ∀ f : Eo, f.All RISOK
  | .nil => trivial
  | .cons _ _ _ _ _ _ kids rest => ⟨erisN (erisAll kids), erisAll rest⟩
theorem erisG (kids : Eo) : RISOK kids := erisN (erisAll kids)

/-- Is: what it answers -/
def isTop (T : Et) (k i c : Int) (t : Bs) (b : Dt) (cs : List Int) (kids : Eo) : Bool × Int := if k = 0 ∨ T.k = 0 then (k == T.k, 0) else is1 T k i c t b cs kids
set_option maxRecDepth 100000 in
set_option maxHeartbeats 8000000 in
theorem eristopN {k i c : Int} {t : Bs} {b : Dt} {cs : List Int} {kids : Eo} {bl : Option Addr} {bn bc : Nat} {cl : Option Addr} {cn cc : Nat} {l : Option Addr} {n cap : Nat} {k' i' c' : Int} {t' : Bs} {b' : Dt} {bl' : Option Addr} {bn' bc' : Nat} {cl' : Option Addr} {cn' cc' : Nat} {l' : Option Addr} {n' cap' : Nat} {S : Nat → Prop} {w : World}
    (hE : ErAt S w ⟨k, i, c, t, b, cs, kids⟩ bl bn bc cl cn cc l n cap) (hG : FoAt S w b'.l bl' bn' bc') (hS : ∀ x, S x → x < w.heap.size) (h5 : k = 5 → okB b) (hok : okL kids) (h5' : k' = 5 → okB b') :
    Calls Tryz.prog 17 #[vE k i c t b bl bn bc cl cn cc l n cap, vE k' i' c' t' b' bl' bn' bc' cl' cn' cc' l' n' cap'] w (fun e w' => e = .returned (.tuple #[.bool (isTop ⟨k', i', c', t', b', [], .nil⟩ k i c t b cs kids).1, .int .i64 (isTop ⟨k', i', c', t', b', [], .nil⟩ k i c t b cs kids).2]) ∧ Below w.heap.size w w') := by
  obtain ⟨hA, hA', hB, _⟩ := ebox2_facts w k i c t b bl bn bc cl cn cc l n cap k' i' c' t' b' bl' bn' bc' cl' cn' cc' l' n' cap'
  generalize hres : isTop ⟨k', i', c', t', b', [], .nil⟩ k i c t b cs kids = res
  have HC := Lib.hid (fun (wx : World) (hx : Below w.heap.size w wx) => erisG kids k i c t b cs bl bn bc cl cn cc l n cap k' i' c' t' b' bl' bn' bc' cl' cn' cc' l' n' cap' S wx (hE.same (w' := wx) (fun x _ hlt => hx.block x hlt) (fun x hx2 _ => hx2)) (hG.same (w' := wx) (fun x _ hlt => hx.block x hlt) (fun x hx2 _ => hx2)) (fun x hx2 => Nat.lt_of_lt_of_le (hS x hx2) hx.size) h5 hok h5')
  unfold vE at HC ⊢
  have HRES := Lib.hid hres
  go_enter Tryz.func17, Tryz.ntmps17
  go_upto_region 1 with (fail)
  change Code.wp _ _ _ _ (ebox2 w k i c t b bl bn bc cl cn cc l n cap k' i' c' t' b' bl' bn' bc' cl' cn' cc' l' n' cap')
  generalize ebox2 w k i c t b bl bn bc cl cn cc l n cap k' i' c' t' b' bl' bn' bc' cl' cn' cc' l' n' cap' = w1 at *
  have HB := Lib.hid hB
  have x0 := hA.cell 0 rfl; have y0 := hA'.cell 0 rfl
  have x1 := hA.cell 1 rfl; have y1 := hA'.cell 1 rfl
  have x2 := hA.cell 2 rfl; have y2 := hA'.cell 2 rfl
  have x3 := hA.cell 3 rfl; have y3 := hA'.cell 3 rfl
  have x4 := hA.cell 4 rfl; have y4 := hA'.cell 4 rfl
  have x5 := hA.cell 5 rfl; have y5 := hA'.cell 5 rfl
  have x6 := hA.cell 6 rfl; have y6 := hA'.cell 6 rfl
  have x7 := hA.cell 7 rfl; have y7 := hA'.cell 7 rfl
  have x8 := hA.cell 8 rfl; have y8 := hA'.cell 8 rfl
  have x9 := hA.cell 9 rfl; have y9 := hA'.cell 9 rfl
  have x10 := hA.cell 10 rfl; have y10 := hA'.cell 10 rfl
  clear hE hG hS h5 hok h5' hA hA' hB hres
  by_cases h0 : k = 0
  · subst h0
    have HE2 := Lib.hid (show ((0 : Int) == k', (0 : Int)) = res by rw [← HRES.out]; unfold isTop; rw [if_pos (.inl rfl)])
    clear HRES
    cases hk : ((0 : Int) == k')
    · have HK := Lib.hid hk
      go_wp2_with fail
      go_ret2
      exact ⟨by rw [← HE2.out, HK.out]; rfl, HB.out⟩
    · have HK := Lib.hid hk
      go_wp2_with fail
      go_ret2
      exact ⟨by rw [← HE2.out, HK.out]; rfl, HB.out⟩
  have e0 : (k == 0) = false := by simpa using h0
  by_cases h0' : k' = 0
  · subst h0'
    have HE2 := Lib.hid (show (false, (0 : Int)) = res by rw [← HRES.out]; unfold isTop; rw [if_pos (.inr rfl), e0])
    clear HRES h0
    go_wp2_with fail
    go_ret2
    exact ⟨by rw [← HE2.out]; rfl, HB.out⟩
  have e0' : (k' == 0) = false := by simpa using h0'
  have hr : is1 ⟨k', i', c', t', b', [], .nil⟩ k i c t b cs kids = res := by rw [← HRES.out]; unfold isTop; rw [if_neg (by simp [h0, h0'])]
  rw [hr] at HC
  clear HRES h0 h0' hr
  go_wp2_with (go_at_call 54; (with_reducible refine (HC.out _ HB.out).mono ?_); rintro e54 w54 ⟨rfl, hb⟩; have HB54 := Lib.hid (HB.out.trans (hb.mono HB.out.size)); clear hb)
  go_ret2
  exact ⟨rfl, HB54.out⟩
end Go.Proofs.YtbldidiibkcelaaGreatDoor

/-
  Whether an error says of itself that it is another one (walks). Not a statement of the seat.
-/
namespace Go.Proofs.YtbldidiibkcelaaGreatDoor
open Go.RowKit

theorem m101c (v : Value) (w : World) : (method 389 101 v "Code").run Tryz.prog w = .ok (145, v) w := by kernel_rfl
set_option maxRecDepth 100000 in
set_option maxHeartbeats 4000000 in
theorem like101 {k i c : Int} {t : Bs} {b : Dt} {bl : Option Addr} {bn bc : Nat} {cl : Option Addr} {cn cc : Nat} {l : Option Addr} {n cap : Nat} {cs : List Int} {p : Nat} {w : World} (c' : Int) (t' : Bs) (hW : Blk w p (V11 k i c t b bl bn bc cl cn cc l n cap)) (hR : Rd w 1 cl cn cc (I8 cs)) :
    Calls Tryz.prog 186 #[.pointer (some ⟨p, 0, none⟩), .iface 101 (.agg #[.int .i64 c', .string ⟨t'.toArray⟩])] w (fun e w' => e = .returned (.bool (cs.any (fun x => x == c'))) ∧ Below w.heap.size w w') := by
  have HK := Lib.hid (show ∀ wx, Below w.heap.size w wx → wx.cell? ⟨p, 9, none⟩ = some (.slice cl cn cc) from fun wx hx => (hW.below hx).cell 9 rfl)
  have HC := Lib.hid (fun wx => code145 c' t' wx)
  have HN := Lib.hid (fun (wx : World) (hx : Below w.heap.size w wx) => contains189 (c' := c') (hR.below hx))
  have hta := fun v w => ta101_2 v w
  have hm := fun v w => m101c v w
  generalize cs.any (fun x => x == c') = r at *
  clear hW hR
  go_enter Tryz.func186, Tryz.ntmps186
  go_upto_region 2 with fail
  go_region_held3 (fun wx : World => wx.cell? ⟨p, 9, none⟩ = some (.slice cl cn cc))
    (first | exact HK.out _ (Below.refl _ _) | exact HK.out _ (Below.refl _ _).drew | exact HK.out _ HB2.out)
    (first
      | (go_simp; go_at_call 145; (with_reducible refine (HC.out _).mono ?_); rintro e2 w2 ⟨rfl, hb⟩; have HB2 := Lib.hid ((Below.refl w.heap.size w).drew.trans hb); clear hb)
      | (go_simp; go_at_call 189; (with_reducible refine (HN.out _ HB2.out).mono ?_); rintro e3 w3 ⟨rfl, rfl⟩))
  all_goals
    go_wp2_with fail
    go_ret
    exact ⟨rfl, HB2.out⟩
theorem m110c (v : Value) (w : World) : (method 389 110 v "Code").run Tryz.prog w = .ok (194, v) w := by kernel_rfl
set_option maxRecDepth 100000 in
set_option maxHeartbeats 4000000 in
theorem like110 {k i c : Int} {t : Bs} {b : Dt} {bl : Option Addr} {bn bc : Nat} {cl : Option Addr} {cn cc : Nat} {l : Option Addr} {n cap : Nat} {cs : List Int} {p : Nat} {w : World} (c' : Int) (t' : Bs) (hW : Blk w p (V11 k i c t b bl bn bc cl cn cc l n cap)) (hR : Rd w 1 cl cn cc (I8 cs)) :
    Calls Tryz.prog 186 #[.pointer (some ⟨p, 0, none⟩), .iface 110 (.agg #[.int .i64 c', .string ⟨t'.toArray⟩])] w (fun e w' => e = .returned (.bool (cs.any (fun x => x == c'))) ∧ Below w.heap.size w w') := by
  have HK := Lib.hid (show ∀ wx, Below w.heap.size w wx → wx.cell? ⟨p, 9, none⟩ = some (.slice cl cn cc) from fun wx hx => (hW.below hx).cell 9 rfl)
  have HC := Lib.hid (fun wx => code194 c' t' wx)
  have HN := Lib.hid (fun (wx : World) (hx : Below w.heap.size w wx) => contains189 (c' := c') (hR.below hx))
  have hta := fun v w => ta110_2 v w
  have hm := fun v w => m110c v w
  generalize cs.any (fun x => x == c') = r at *
  clear hW hR
  go_enter Tryz.func186, Tryz.ntmps186
  go_upto_region 2 with fail
  go_region_held3 (fun wx : World => wx.cell? ⟨p, 9, none⟩ = some (.slice cl cn cc))
    (first | exact HK.out _ (Below.refl _ _) | exact HK.out _ (Below.refl _ _).drew | exact HK.out _ HB2.out)
    (first
      | (go_simp; go_at_call 194; (with_reducible refine (HC.out _).mono ?_); rintro e2 w2 ⟨rfl, hb⟩; have HB2 := Lib.hid ((Below.refl w.heap.size w).drew.trans hb); clear hb)
      | (go_simp; go_at_call 189; (with_reducible refine (HN.out _ HB2.out).mono ?_); rintro e3 w3 ⟨rfl, rfl⟩))
  all_goals
    go_wp2_with fail
    go_ret
    exact ⟨rfl, HB2.out⟩
set_option maxRecDepth 100000 in
theorem like89 (v1 v : Value) (w : World) : Calls Tryz.prog 186 #[v1, .iface 89 v] w (fun e w' => e = .returned (.bool false) ∧ Below w.heap.size w w') := by
  have hta := fun v w => ta89_2 v w
  go_enter Tryz.func186, Tryz.ntmps186
  go_upto_region 2 with fail
  go_region
  go_wp2_with fail
  go_ret
  exact ⟨rfl, (Below.refl _ _).drew⟩
set_option maxRecDepth 100000 in
theorem like102 (v1 v : Value) (w : World) : Calls Tryz.prog 186 #[v1, .iface 102 v] w (fun e w' => e = .returned (.bool false) ∧ Below w.heap.size w w') := by
  have hta := fun v w => ta102_2 v w
  go_enter Tryz.func186, Tryz.ntmps186
  go_upto_region 2 with fail
  go_region
  go_wp2_with fail
  go_ret
  exact ⟨rfl, (Below.refl _ _).drew⟩
set_option maxRecDepth 100000 in
theorem like103 (v1 v : Value) (w : World) : Calls Tryz.prog 186 #[v1, .iface 103 v] w (fun e w' => e = .returned (.bool false) ∧ Below w.heap.size w w') := by
  have hta := fun v w => ta103_2 v w
  go_enter Tryz.func186, Tryz.ntmps186
  go_upto_region 2 with fail
  go_region
  go_wp2_with fail
  go_ret
  exact ⟨rfl, (Below.refl _ _).drew⟩
set_option maxRecDepth 100000 in
theorem like106 (v1 v : Value) (w : World) : Calls Tryz.prog 186 #[v1, .iface 106 v] w (fun e w' => e = .returned (.bool false) ∧ Below w.heap.size w w') := by
  have hta := fun v w => ta106_2 v w
  go_enter Tryz.func186, Tryz.ntmps186
  go_upto_region 2 with fail
  go_region
  go_wp2_with fail
  go_ret
  exact ⟨rfl, (Below.refl _ _).drew⟩
set_option maxRecDepth 100000 in
theorem like107 (v1 v : Value) (w : World) : Calls Tryz.prog 186 #[v1, .iface 107 v] w (fun e w' => e = .returned (.bool false) ∧ Below w.heap.size w w') := by
  have hta := fun v w => ta107_2 v w
  go_enter Tryz.func186, Tryz.ntmps186
  go_upto_region 2 with fail
  go_region
  go_wp2_with fail
  go_ret
  exact ⟨rfl, (Below.refl _ _).drew⟩
set_option maxRecDepth 100000 in
theorem like108 (v1 v : Value) (w : World) : Calls Tryz.prog 186 #[v1, .iface 108 v] w (fun e w' => e = .returned (.bool false) ∧ Below w.heap.size w w') := by
  have hta := fun v w => ta108_2 v w
  go_enter Tryz.func186, Tryz.ntmps186
  go_upto_region 2 with fail
  go_region
  go_wp2_with fail
  go_ret
  exact ⟨rfl, (Below.refl _ _).drew⟩
set_option maxRecDepth 100000 in
theorem like109 (v1 v : Value) (w : World) : Calls Tryz.prog 186 #[v1, .iface 109 v] w (fun e w' => e = .returned (.bool false) ∧ Below w.heap.size w w') := by
  have hta := fun v w => ta109_2 v w
  go_enter Tryz.func186, Tryz.ntmps186
  go_upto_region 2 with fail
  go_region
  go_wp2_with fail
  go_ret
  exact ⟨rfl, (Below.refl _ _).drew⟩
/-- Is of such an error, at a target's value -/
theorem like186 {k i c : Int} {t : Bs} {b : Dt} {bl : Option Addr} {bn bc : Nat} {cl : Option Addr} {cn cc : Nat} {l : Option Addr} {n cap : Nat} {cs : List Int} {p : Nat} {w : World} {k' : Int} (c' : Int) (t' : Bs) (cl' : Option Addr) (cn' cc' q' p' : Nat) (h1 : 1 ≤ k') (h2 : k' ≤ 10) (hW : Blk w p (V11 k i c t b bl bn bc cl cn cc l n cap)) (hR : Rd w 1 cl cn cc (I8 cs)) :
    Calls Tryz.prog 186 #[.pointer (some ⟨p, 0, none⟩), vErr k' c' t' cl' cn' cc' q' p'] w (fun e w' => e = .returned (.bool ((k' == 1 || k' == 10) && cs.any (fun x => x == c'))) ∧ Below w.heap.size w w') := by
  rcases kinds_cases k' with rfl | rfl | rfl | rfl | rfl | rfl | rfl | rfl | rfl | rfl | ⟨g1, g2, g3, g4, g5, g6, g7, g8, g9, g10⟩
  · exact like101 c' t' hW hR
  · exact like89 _ _ w
  · exact like102 _ _ w
  · exact like103 _ _ w
  · exact like106 _ _ w
  · exact like107 _ _ w
  · exact like89 _ _ w
  · exact like108 _ _ w
  · exact like109 _ _ w
  · exact like110 c' t' hW hR
  · omega
end Go.Proofs.YtbldidiibkcelaaGreatDoor
