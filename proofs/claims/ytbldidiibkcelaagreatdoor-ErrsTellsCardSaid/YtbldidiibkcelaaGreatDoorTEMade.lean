/-
  What an error value is made of (walks). Not a statement of the seat.
-/
import Derived.Test.YtbldidiibkcelaaGreatDoorTEql
import Derived.Test.YtbldidiibkcelaaGreatDoorTREqual
import Derived.Test.YtbldidiibkcelaaGreatDoorTECount
import Derived.Deep.Cut
namespace Go.Proofs.YtbldidiibkcelaaGreatDoor
open Go.RowKit

set_option maxRecDepth 100000 in
set_option maxHeartbeats 4000000 in
theorem mk144 {k i c : Int} {t : Bs} {b : Dt} {bl : Option Addr} {bn bc : Nat} {cl : Option Addr} {cn cc : Nat} {l : Option Addr} {n cap : Nat} {p : Nat} {w : World} (hW : Blk w p (V11 k i c t b bl bn bc cl cn cc l n cap)) : Calls Tryz.prog 144 #[.pointer (some ⟨p, 0, none⟩)] w (fun e w' => e = .returned (vE k i c t b bl bn bc cl cn cc l n cap) ∧ Below w.heap.size w w') := by
  have hA := zbox_blk w
  have hB := zbox_below w
  have hx := hW.below hB
  clear hW
  go_enter Tryz.func144, Tryz.ntmps144
  go_upto_region 1 with (fail)
  change Code.wp _ _ _ _ (zbox w)
  generalize zbox w = w1 at *
  have c0 := hA.cell 0 rfl; have c1 := hA.cell 1 rfl; have c2 := hA.cell 2 rfl; have c3 := hA.cell 3 rfl; have c4 := hA.cell 4 rfl; have c5 := hA.cell 5 rfl; have c6 := hA.cell 6 rfl; have c7 := hA.cell 7 rfl; have c8 := hA.cell 8 rfl; have c9 := hA.cell 9 rfl; have c10 := hA.cell 10 rfl
  have x0 := hx.cell 0 rfl; have x1 := hx.cell 1 rfl; have x2 := hx.cell 2 rfl; have x3 := hx.cell 3 rfl; have x4 := hx.cell 4 rfl; have x5 := hx.cell 5 rfl; have x6 := hx.cell 6 rfl; have x7 := hx.cell 7 rfl; have x8 := hx.cell 8 rfl; have x9 := hx.cell 9 rfl; have x10 := hx.cell 10 rfl
  have f0 := hA.free 0 (by simp [Z11]); have f1 := hA.free 1 (by simp [Z11]); have f2 := hA.free 2 (by simp [Z11]); have f3 := hA.free 3 (by simp [Z11]); have f4 := hA.free 4 (by simp [Z11]); have f5 := hA.free 5 (by simp [Z11]); have f6 := hA.free 6 (by simp [Z11]); have f7 := hA.free 7 (by simp [Z11]); have f8 := hA.free 8 (by simp [Z11]); have f9 := hA.free 9 (by simp [Z11]); have f10 := hA.free 10 (by simp [Z11])
  have HA := Lib.hid hA
  have HB := Lib.hid hB
  clear hA hB hx
  go_wp2_with fail
  exact er_fin Tryz.results144 rfl (Nat.le_refl _) HB.out HA.out
set_option maxRecDepth 100000 in
set_option maxHeartbeats 4000000 in
theorem mk150 {k i c : Int} {t : Bs} {b : Dt} {bl : Option Addr} {bn bc : Nat} {cl : Option Addr} {cn cc : Nat} {l : Option Addr} {n cap : Nat} {p : Nat} {w : World} (hW : Blk w p (V11 k i c t b bl bn bc cl cn cc l n cap)) : Calls Tryz.prog 150 #[.pointer (some ⟨p, 0, none⟩)] w (fun e w' => e = .returned (vE k i c t b bl bn bc cl cn cc l n cap) ∧ Below w.heap.size w w') := by
  have hA := zbox_blk w
  have hB := zbox_below w
  have hx := hW.below hB
  clear hW
  go_enter Tryz.func150, Tryz.ntmps150
  go_upto_region 1 with (fail)
  change Code.wp _ _ _ _ (zbox w)
  generalize zbox w = w1 at *
  have c0 := hA.cell 0 rfl; have c1 := hA.cell 1 rfl; have c2 := hA.cell 2 rfl; have c3 := hA.cell 3 rfl; have c4 := hA.cell 4 rfl; have c5 := hA.cell 5 rfl; have c6 := hA.cell 6 rfl; have c7 := hA.cell 7 rfl; have c8 := hA.cell 8 rfl; have c9 := hA.cell 9 rfl; have c10 := hA.cell 10 rfl
  have x0 := hx.cell 0 rfl; have x1 := hx.cell 1 rfl; have x2 := hx.cell 2 rfl; have x3 := hx.cell 3 rfl; have x4 := hx.cell 4 rfl; have x5 := hx.cell 5 rfl; have x6 := hx.cell 6 rfl; have x7 := hx.cell 7 rfl; have x8 := hx.cell 8 rfl; have x9 := hx.cell 9 rfl; have x10 := hx.cell 10 rfl
  have f0 := hA.free 0 (by simp [Z11]); have f1 := hA.free 1 (by simp [Z11]); have f2 := hA.free 2 (by simp [Z11]); have f3 := hA.free 3 (by simp [Z11]); have f4 := hA.free 4 (by simp [Z11]); have f5 := hA.free 5 (by simp [Z11]); have f6 := hA.free 6 (by simp [Z11]); have f7 := hA.free 7 (by simp [Z11]); have f8 := hA.free 8 (by simp [Z11]); have f9 := hA.free 9 (by simp [Z11]); have f10 := hA.free 10 (by simp [Z11])
  have HA := Lib.hid hA
  have HB := Lib.hid hB
  clear hA hB hx
  go_wp2_with fail
  exact er_fin Tryz.results150 rfl (Nat.le_refl _) HB.out HA.out
set_option maxRecDepth 100000 in
set_option maxHeartbeats 4000000 in
theorem mk154 {k i c : Int} {t : Bs} {b : Dt} {bl : Option Addr} {bn bc : Nat} {cl : Option Addr} {cn cc : Nat} {l : Option Addr} {n cap : Nat} {p : Nat} {w : World} (hW : Blk w p (V11 k i c t b bl bn bc cl cn cc l n cap)) : Calls Tryz.prog 154 #[.pointer (some ⟨p, 0, none⟩)] w (fun e w' => e = .returned (vE k i c t b bl bn bc cl cn cc l n cap) ∧ Below w.heap.size w w') := by
  have hA := zbox_blk w
  have hB := zbox_below w
  have hx := hW.below hB
  clear hW
  go_enter Tryz.func154, Tryz.ntmps154
  go_upto_region 1 with (fail)
  change Code.wp _ _ _ _ (zbox w)
  generalize zbox w = w1 at *
  have c0 := hA.cell 0 rfl; have c1 := hA.cell 1 rfl; have c2 := hA.cell 2 rfl; have c3 := hA.cell 3 rfl; have c4 := hA.cell 4 rfl; have c5 := hA.cell 5 rfl; have c6 := hA.cell 6 rfl; have c7 := hA.cell 7 rfl; have c8 := hA.cell 8 rfl; have c9 := hA.cell 9 rfl; have c10 := hA.cell 10 rfl
  have x0 := hx.cell 0 rfl; have x1 := hx.cell 1 rfl; have x2 := hx.cell 2 rfl; have x3 := hx.cell 3 rfl; have x4 := hx.cell 4 rfl; have x5 := hx.cell 5 rfl; have x6 := hx.cell 6 rfl; have x7 := hx.cell 7 rfl; have x8 := hx.cell 8 rfl; have x9 := hx.cell 9 rfl; have x10 := hx.cell 10 rfl
  have f0 := hA.free 0 (by simp [Z11]); have f1 := hA.free 1 (by simp [Z11]); have f2 := hA.free 2 (by simp [Z11]); have f3 := hA.free 3 (by simp [Z11]); have f4 := hA.free 4 (by simp [Z11]); have f5 := hA.free 5 (by simp [Z11]); have f6 := hA.free 6 (by simp [Z11]); have f7 := hA.free 7 (by simp [Z11]); have f8 := hA.free 8 (by simp [Z11]); have f9 := hA.free 9 (by simp [Z11]); have f10 := hA.free 10 (by simp [Z11])
  have HA := Lib.hid hA
  have HB := Lib.hid hB
  clear hA hB hx
  go_wp2_with fail
  exact er_fin Tryz.results154 rfl (Nat.le_refl _) HB.out HA.out
set_option maxRecDepth 100000 in
set_option maxHeartbeats 4000000 in
theorem mk188 {k i c : Int} {t : Bs} {b : Dt} {bl : Option Addr} {bn bc : Nat} {cl : Option Addr} {cn cc : Nat} {l : Option Addr} {n cap : Nat} {p : Nat} {w : World} (hW : Blk w p (V11 k i c t b bl bn bc cl cn cc l n cap)) : Calls Tryz.prog 188 #[.pointer (some ⟨p, 0, none⟩)] w (fun e w' => e = .returned (vE k i c t b bl bn bc cl cn cc l n cap) ∧ Below w.heap.size w w') := by
  have hA := zbox_blk w
  have hB := zbox_below w
  have hx := hW.below hB
  clear hW
  go_enter Tryz.func188, Tryz.ntmps188
  go_upto_region 1 with (fail)
  change Code.wp _ _ _ _ (zbox w)
  generalize zbox w = w1 at *
  have c0 := hA.cell 0 rfl; have c1 := hA.cell 1 rfl; have c2 := hA.cell 2 rfl; have c3 := hA.cell 3 rfl; have c4 := hA.cell 4 rfl; have c5 := hA.cell 5 rfl; have c6 := hA.cell 6 rfl; have c7 := hA.cell 7 rfl; have c8 := hA.cell 8 rfl; have c9 := hA.cell 9 rfl; have c10 := hA.cell 10 rfl
  have x0 := hx.cell 0 rfl; have x1 := hx.cell 1 rfl; have x2 := hx.cell 2 rfl; have x3 := hx.cell 3 rfl; have x4 := hx.cell 4 rfl; have x5 := hx.cell 5 rfl; have x6 := hx.cell 6 rfl; have x7 := hx.cell 7 rfl; have x8 := hx.cell 8 rfl; have x9 := hx.cell 9 rfl; have x10 := hx.cell 10 rfl
  have f0 := hA.free 0 (by simp [Z11]); have f1 := hA.free 1 (by simp [Z11]); have f2 := hA.free 2 (by simp [Z11]); have f3 := hA.free 3 (by simp [Z11]); have f4 := hA.free 4 (by simp [Z11]); have f5 := hA.free 5 (by simp [Z11]); have f6 := hA.free 6 (by simp [Z11]); have f7 := hA.free 7 (by simp [Z11]); have f8 := hA.free 8 (by simp [Z11]); have f9 := hA.free 9 (by simp [Z11]); have f10 := hA.free 10 (by simp [Z11])
  have HA := Lib.hid hA
  have HB := Lib.hid hB
  clear hA hB hx
  go_wp2_with fail
  exact er_fin Tryz.results188 rfl (Nat.le_refl _) HB.out HA.out
set_option maxRecDepth 100000 in
set_option maxHeartbeats 4000000 in
theorem mk193 {k i c : Int} {t : Bs} {b : Dt} {bl : Option Addr} {bn bc : Nat} {cl : Option Addr} {cn cc : Nat} {l : Option Addr} {n cap : Nat} {p : Nat} {w : World} (hW : Blk w p (V11 k i c t b bl bn bc cl cn cc l n cap)) : Calls Tryz.prog 193 #[.pointer (some ⟨p, 0, none⟩)] w (fun e w' => e = .returned (vE k i c t b bl bn bc cl cn cc l n cap) ∧ Below w.heap.size w w') := by
  have hA := zbox_blk w
  have hB := zbox_below w
  have hx := hW.below hB
  clear hW
  go_enter Tryz.func193, Tryz.ntmps193
  go_upto_region 1 with (fail)
  change Code.wp _ _ _ _ (zbox w)
  generalize zbox w = w1 at *
  have c0 := hA.cell 0 rfl; have c1 := hA.cell 1 rfl; have c2 := hA.cell 2 rfl; have c3 := hA.cell 3 rfl; have c4 := hA.cell 4 rfl; have c5 := hA.cell 5 rfl; have c6 := hA.cell 6 rfl; have c7 := hA.cell 7 rfl; have c8 := hA.cell 8 rfl; have c9 := hA.cell 9 rfl; have c10 := hA.cell 10 rfl
  have x0 := hx.cell 0 rfl; have x1 := hx.cell 1 rfl; have x2 := hx.cell 2 rfl; have x3 := hx.cell 3 rfl; have x4 := hx.cell 4 rfl; have x5 := hx.cell 5 rfl; have x6 := hx.cell 6 rfl; have x7 := hx.cell 7 rfl; have x8 := hx.cell 8 rfl; have x9 := hx.cell 9 rfl; have x10 := hx.cell 10 rfl
  have f0 := hA.free 0 (by simp [Z11]); have f1 := hA.free 1 (by simp [Z11]); have f2 := hA.free 2 (by simp [Z11]); have f3 := hA.free 3 (by simp [Z11]); have f4 := hA.free 4 (by simp [Z11]); have f5 := hA.free 5 (by simp [Z11]); have f6 := hA.free 6 (by simp [Z11]); have f7 := hA.free 7 (by simp [Z11]); have f8 := hA.free 8 (by simp [Z11]); have f9 := hA.free 9 (by simp [Z11]); have f10 := hA.free 10 (by simp [Z11])
  have HA := Lib.hid hA
  have HB := Lib.hid hB
  clear hA hB hx
  go_wp2_with fail
  exact er_fin Tryz.results193 rfl (Nat.le_refl _) HB.out HA.out
set_option maxRecDepth 100000 in
set_option maxHeartbeats 4000000 in
theorem mk144n (w : World) : Calls Tryz.prog 144 #[.pointer none] w (fun e w' => e = .returned (vE 7 0 0 [] Dt.zero none 0 0 none 0 0 none 0 0) ∧ Below w.heap.size w w') := by
  have hA := zbox_blk w
  have hB := zbox_below w
  go_enter Tryz.func144, Tryz.ntmps144
  go_upto_region 1 with (fail)
  change Code.wp _ _ _ _ (zbox w)
  generalize zbox w = w1 at *
  have c0 := hA.cell 0 rfl; have c1 := hA.cell 1 rfl; have c2 := hA.cell 2 rfl; have c3 := hA.cell 3 rfl; have c4 := hA.cell 4 rfl; have c5 := hA.cell 5 rfl; have c6 := hA.cell 6 rfl; have c7 := hA.cell 7 rfl; have c8 := hA.cell 8 rfl; have c9 := hA.cell 9 rfl; have c10 := hA.cell 10 rfl
  have f0 := hA.free 0 (by simp [Z11]); have f1 := hA.free 1 (by simp [Z11]); have f2 := hA.free 2 (by simp [Z11]); have f3 := hA.free 3 (by simp [Z11]); have f4 := hA.free 4 (by simp [Z11]); have f5 := hA.free 5 (by simp [Z11]); have f6 := hA.free 6 (by simp [Z11]); have f7 := hA.free 7 (by simp [Z11]); have f8 := hA.free 8 (by simp [Z11]); have f9 := hA.free 9 (by simp [Z11]); have f10 := hA.free 10 (by simp [Z11])
  have HA := Lib.hid hA
  have HB := Lib.hid hB
  clear hA hB
  go_wp2_with fail
  exact er_fin Tryz.results144 rfl (Nat.le_refl _) HB.out HA.out
set_option maxRecDepth 100000 in
set_option maxHeartbeats 4000000 in
theorem mk184 (cl : Option Addr) (cn cc : Nat) (w : World) : Calls Tryz.prog 184 #[.slice cl cn cc] w (fun e w' => e = .returned (vE 6 0 0 [] Dt.zero none 0 0 cl cn cc none 0 0) ∧ Below w.heap.size w w') := by
  have hA := zbox_blk w
  have hB := zbox_below w
  go_enter Tryz.func184, Tryz.ntmps184
  go_upto_region 1 with (fail)
  change Code.wp _ _ _ _ (zbox w)
  generalize zbox w = w1 at *
  have c0 := hA.cell 0 rfl; have c1 := hA.cell 1 rfl; have c2 := hA.cell 2 rfl; have c3 := hA.cell 3 rfl; have c4 := hA.cell 4 rfl; have c5 := hA.cell 5 rfl; have c6 := hA.cell 6 rfl; have c7 := hA.cell 7 rfl; have c8 := hA.cell 8 rfl; have c9 := hA.cell 9 rfl; have c10 := hA.cell 10 rfl
  have f0 := hA.free 0 (by simp [Z11]); have f1 := hA.free 1 (by simp [Z11]); have f2 := hA.free 2 (by simp [Z11]); have f3 := hA.free 3 (by simp [Z11]); have f4 := hA.free 4 (by simp [Z11]); have f5 := hA.free 5 (by simp [Z11]); have f6 := hA.free 6 (by simp [Z11]); have f7 := hA.free 7 (by simp [Z11]); have f8 := hA.free 8 (by simp [Z11]); have f9 := hA.free 9 (by simp [Z11]); have f10 := hA.free 10 (by simp [Z11])
  have HA := Lib.hid hA
  have HB := Lib.hid hB
  clear hA hB
  go_wp2_with fail
  exact er_fin Tryz.results184 rfl (Nat.le_refl _) HB.out HA.out
set_option maxRecDepth 100000 in
set_option maxHeartbeats 4000000 in
theorem mk147 (c : Int) (t : Bs) (w : World) : Calls Tryz.prog 147 #[.agg #[.int .i64 c, .string ⟨t.toArray⟩]] w (fun e w' => e = .returned (vE 1 0 c t Dt.zero none 0 0 none 0 0 none 0 0) ∧ Below w.heap.size w w') := by
  have hP := Blk.new w #[.int .i64 c, .string ⟨t.toArray⟩] 101
  have hBP : Below w.heap.size w (w.alloc (.cells #[.int .i64 c, .string ⟨t.toArray⟩] 101)) := (Below.refl _ _).alloc (Nat.le_refl _) _
  have hz : (w.alloc (.cells #[.int .i64 c, .string ⟨t.toArray⟩] 101)).heap.size = w.heap.size + 1 := by simp
  go_enter Tryz.func147, Tryz.ntmps147
  go_upto_region 1 with (fail)
  change Code.wp _ _ _ _ (zbox (w.alloc (.cells #[.int .i64 c, .string ⟨t.toArray⟩] 101)))
  generalize w.alloc (.cells #[.int .i64 c, .string ⟨t.toArray⟩] 101) = w0 at *
  have hA := zbox_blk w0
  have hB := zbox_below w0
  have hB2 : Below w.heap.size w (zbox w0) := hBP.trans (hB.mono hBP.size)
  have hx := hP.below hB
  have x0 := hx.cell 0 rfl; have x1 := hx.cell 1 rfl
  rw [hz] at hA
  generalize zbox w0 = w1 at *
  have c0 := hA.cell 0 rfl; have c1 := hA.cell 1 rfl; have c2 := hA.cell 2 rfl; have c3 := hA.cell 3 rfl; have c4 := hA.cell 4 rfl; have c5 := hA.cell 5 rfl; have c6 := hA.cell 6 rfl; have c7 := hA.cell 7 rfl; have c8 := hA.cell 8 rfl; have c9 := hA.cell 9 rfl; have c10 := hA.cell 10 rfl
  have f0 := hA.free 0 (by simp [Z11]); have f1 := hA.free 1 (by simp [Z11]); have f2 := hA.free 2 (by simp [Z11]); have f3 := hA.free 3 (by simp [Z11]); have f4 := hA.free 4 (by simp [Z11]); have f5 := hA.free 5 (by simp [Z11]); have f6 := hA.free 6 (by simp [Z11]); have f7 := hA.free 7 (by simp [Z11]); have f8 := hA.free 8 (by simp [Z11]); have f9 := hA.free 9 (by simp [Z11]); have f10 := hA.free 10 (by simp [Z11])
  have HA := Lib.hid hA
  have HB := Lib.hid hB2
  clear hA hB hB2 hx hP hBP hz
  go_wp2_with fail
  exact er_fin Tryz.results147 rfl (by omega) HB.out HA.out
set_option maxRecDepth 100000 in
set_option maxHeartbeats 4000000 in
theorem mk197 (c : Int) (t : Bs) (w : World) : Calls Tryz.prog 197 #[.agg #[.int .i64 c, .string ⟨t.toArray⟩]] w (fun e w' => e = .returned (vE 10 0 c t Dt.zero none 0 0 none 0 0 none 0 0) ∧ Below w.heap.size w w') := by
  have hP := Blk.new w #[.int .i64 c, .string ⟨t.toArray⟩] 110
  have hBP : Below w.heap.size w (w.alloc (.cells #[.int .i64 c, .string ⟨t.toArray⟩] 110)) := (Below.refl _ _).alloc (Nat.le_refl _) _
  have hz : (w.alloc (.cells #[.int .i64 c, .string ⟨t.toArray⟩] 110)).heap.size = w.heap.size + 1 := by simp
  go_enter Tryz.func197, Tryz.ntmps197
  go_upto_region 1 with (fail)
  change Code.wp _ _ _ _ (zbox (w.alloc (.cells #[.int .i64 c, .string ⟨t.toArray⟩] 110)))
  generalize w.alloc (.cells #[.int .i64 c, .string ⟨t.toArray⟩] 110) = w0 at *
  have hA := zbox_blk w0
  have hB := zbox_below w0
  have hB2 : Below w.heap.size w (zbox w0) := hBP.trans (hB.mono hBP.size)
  have hx := hP.below hB
  have x0 := hx.cell 0 rfl; have x1 := hx.cell 1 rfl
  rw [hz] at hA
  generalize zbox w0 = w1 at *
  have c0 := hA.cell 0 rfl; have c1 := hA.cell 1 rfl; have c2 := hA.cell 2 rfl; have c3 := hA.cell 3 rfl; have c4 := hA.cell 4 rfl; have c5 := hA.cell 5 rfl; have c6 := hA.cell 6 rfl; have c7 := hA.cell 7 rfl; have c8 := hA.cell 8 rfl; have c9 := hA.cell 9 rfl; have c10 := hA.cell 10 rfl
  have f0 := hA.free 0 (by simp [Z11]); have f1 := hA.free 1 (by simp [Z11]); have f2 := hA.free 2 (by simp [Z11]); have f3 := hA.free 3 (by simp [Z11]); have f4 := hA.free 4 (by simp [Z11]); have f5 := hA.free 5 (by simp [Z11]); have f6 := hA.free 6 (by simp [Z11]); have f7 := hA.free 7 (by simp [Z11]); have f8 := hA.free 8 (by simp [Z11]); have f9 := hA.free 9 (by simp [Z11]); have f10 := hA.free 10 (by simp [Z11])
  have HA := Lib.hid hA
  have HB := Lib.hid hB2
  clear hA hB hB2 hx hP hBP hz
  go_wp2_with fail
  exact er_fin Tryz.results197 rfl (by omega) HB.out HA.out
set_option maxRecDepth 100000 in
set_option maxHeartbeats 4000000 in
theorem mk164 {k i c : Int} {t : Bs} {b : Dt} {bl : Option Addr} {bn bc : Nat} {cl : Option Addr} {cn cc : Nat} {l : Option Addr} {n cap : Nat} {q : Nat} (w : World) (hq : Blk w q (V11 k i c t b bl bn bc cl cn cc l n cap)) : Calls Tryz.prog 164 #[.agg #[.pointer (some ⟨q, 0, none⟩)]] w (fun e w' => e = .returned (vE k i c t b bl bn bc cl cn cc l n cap) ∧ Below w.heap.size w w') := by
  have hP := Blk.new w #[.pointer (some ⟨q, 0, none⟩)] 106
  have hBP : Below w.heap.size w (w.alloc (.cells #[.pointer (some ⟨q, 0, none⟩)] 106)) := (Below.refl _ _).alloc (Nat.le_refl _) _
  have hz : (w.alloc (.cells #[.pointer (some ⟨q, 0, none⟩)] 106)).heap.size = w.heap.size + 1 := by simp
  go_enter Tryz.func164, Tryz.ntmps164
  go_upto_region 1 with (fail)
  change Code.wp _ _ _ _ (zbox (w.alloc (.cells #[.pointer (some ⟨q, 0, none⟩)] 106)))
  generalize w.alloc (.cells #[.pointer (some ⟨q, 0, none⟩)] 106) = w0 at *
  have hA := zbox_blk w0
  have hB := zbox_below w0
  have hB2 : Below w.heap.size w (zbox w0) := hBP.trans (hB.mono hBP.size)
  have hx := hP.below hB
  have x0 := hx.cell 0 rfl
  have hy := hq.below hB2
  have y0 := hy.cell 0 rfl; have y1 := hy.cell 1 rfl; have y2 := hy.cell 2 rfl; have y3 := hy.cell 3 rfl; have y4 := hy.cell 4 rfl; have y5 := hy.cell 5 rfl; have y6 := hy.cell 6 rfl; have y7 := hy.cell 7 rfl; have y8 := hy.cell 8 rfl; have y9 := hy.cell 9 rfl; have y10 := hy.cell 10 rfl
  clear hy hq
  rw [hz] at hA
  generalize zbox w0 = w1 at *
  have c0 := hA.cell 0 rfl; have c1 := hA.cell 1 rfl; have c2 := hA.cell 2 rfl; have c3 := hA.cell 3 rfl; have c4 := hA.cell 4 rfl; have c5 := hA.cell 5 rfl; have c6 := hA.cell 6 rfl; have c7 := hA.cell 7 rfl; have c8 := hA.cell 8 rfl; have c9 := hA.cell 9 rfl; have c10 := hA.cell 10 rfl
  have f0 := hA.free 0 (by simp [Z11]); have f1 := hA.free 1 (by simp [Z11]); have f2 := hA.free 2 (by simp [Z11]); have f3 := hA.free 3 (by simp [Z11]); have f4 := hA.free 4 (by simp [Z11]); have f5 := hA.free 5 (by simp [Z11]); have f6 := hA.free 6 (by simp [Z11]); have f7 := hA.free 7 (by simp [Z11]); have f8 := hA.free 8 (by simp [Z11]); have f9 := hA.free 9 (by simp [Z11]); have f10 := hA.free 10 (by simp [Z11])
  have HA := Lib.hid hA
  have HB := Lib.hid hB2
  clear hA hB hB2 hx hP hBP hz
  go_wp2_with fail
  exact er_fin Tryz.results164 rfl (by omega) HB.out HA.out
set_option maxRecDepth 100000 in
theorem code145 (c : Int) (t : Bs) (w : World) : Calls Tryz.prog 145 #[.agg #[.int .i64 c, .string ⟨t.toArray⟩]] w (fun e w' => e = .returned (.int .i64 c) ∧ Below w.heap.size w w') := by
  have hA := Blk.new w #[.int .i64 c, .string ⟨t.toArray⟩] 101
  have hB : Below w.heap.size w (w.alloc (.cells #[.int .i64 c, .string ⟨t.toArray⟩] 101)) := (Below.refl _ _).alloc (Nat.le_refl _) _
  go_enter Tryz.func145, Tryz.ntmps145
  go_upto_region 1 with (fail)
  generalize w.alloc (.cells #[.int .i64 c, .string ⟨t.toArray⟩] 101) = w1 at *
  have c0 := hA.cell 0 rfl; have c1 := hA.cell 1 rfl
  go_wp2_with fail
  go_ret
  exact ⟨rfl, hB⟩
set_option maxRecDepth 100000 in
theorem code194 (c : Int) (t : Bs) (w : World) : Calls Tryz.prog 194 #[.agg #[.int .i64 c, .string ⟨t.toArray⟩]] w (fun e w' => e = .returned (.int .i64 c) ∧ Below w.heap.size w w') := by
  have hA := Blk.new w #[.int .i64 c, .string ⟨t.toArray⟩] 110
  have hB : Below w.heap.size w (w.alloc (.cells #[.int .i64 c, .string ⟨t.toArray⟩] 110)) := (Below.refl _ _).alloc (Nat.le_refl _) _
  go_enter Tryz.func194, Tryz.ntmps194
  go_upto_region 1 with (fail)
  generalize w.alloc (.cells #[.int .i64 c, .string ⟨t.toArray⟩] 110) = w1 at *
  have c0 := hA.cell 0 rfl; have c1 := hA.cell 1 rfl
  go_wp2_with fail
  go_ret
  exact ⟨rfl, hB⟩
end Go.Proofs.YtbldidiibkcelaaGreatDoor

/-
  The document's Is (walks). Not a statement of the seat.
-/
namespace Go.Proofs.YtbldidiibkcelaaGreatDoor
open Go.RowKit

end Go.Proofs.YtbldidiibkcelaaGreatDoor

/-
  Whether an error says of itself that it is another one (walks). Not a statement of the seat.
-/
namespace Go.Proofs.YtbldidiibkcelaaGreatDoor
open Go.RowKit

theorem m101c (v : Value) (w : World) : (method 389 101 v "Code").run Tryz.prog w = .ok (145, v) w := by kernel_rfl
theorem m110c (v : Value) (w : World) : (method 389 110 v "Code").run Tryz.prog w = .ok (194, v) w := by kernel_rfl
end Go.Proofs.YtbldidiibkcelaaGreatDoor

