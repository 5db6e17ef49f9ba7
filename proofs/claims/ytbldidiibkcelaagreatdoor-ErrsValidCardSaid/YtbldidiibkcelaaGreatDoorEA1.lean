/-
  awake's one error: what its functions answer (walks). Not a statement of the seat.
-/
import Derived.Test.YtbldidiibkcelaaGreatDoorEHas
import Derived.Test.YtbldidiibkcelaaGreatDoorEValid
import Derived.Recover
import Derived.Deep.RegionHeld3
namespace Go.Proofs.YtbldidiibkcelaaGreatDoor
open Go.RowKit

/-- the plain error -/
def P0 : Value := vE 1 0 5 [112] Dt.zero none 0 0 none 0 0 none 0 0
/-- .. as an error value -/
def I0 : Value := .iface 101 (.agg #[.int .i64 5, .string ⟨#[112]⟩])
/-- the one that wraps it -/
def W0 (l : Option Addr) : Value := vE 3 1 0 [119] Dt.zero none 0 0 none 0 0 l 1 1
def VP0 : List Value := V11 1 0 5 [112] Dt.zero none 0 0 none 0 0 none 0 0
def VW0 (l : Option Addr) : List Value := V11 3 1 0 [119] Dt.zero none 0 0 none 0 0 l 1 1
/-- a struct of eleven fields is stored -/
def st11 (w : World) (b : Nat) (v0 v1 v2 v3 v4 v5 v6 v7 v8 v9 v10 : Value) : World :=
  ((((((((((w.setCell ⟨b, 0, none⟩ v0).setCell ⟨b, 1, none⟩ v1).setCell ⟨b, 2, none⟩ v2).setCell ⟨b, 3, none⟩ v3).setCell ⟨b, 4, none⟩ v4).setCell ⟨b, 5, none⟩ v5).setCell ⟨b, 6, none⟩ v6).setCell ⟨b, 7, none⟩ v7).setCell ⟨b, 8, none⟩ v8).setCell ⟨b, 9, none⟩ v9).setCell ⟨b, 10, none⟩ v10
theorem st11_blk {w : World} {b : Nat} {u0 u1 u2 u3 u4 u5 u6 u7 u8 u9 u10 : Value} (h : Blk w b [u0, u1, u2, u3, u4, u5, u6, u7, u8, u9, u10]) (v0 v1 v2 v3 v4 v5 v6 v7 v8 v9 v10 : Value) : Blk (st11 w b v0 v1 v2 v3 v4 v5 v6 v7 v8 v9 v10) b [v0, v1, v2, v3, v4, v5, v6, v7, v8, v9, v10] := by
  have := ((((((((((h.set (j := 0) v0).set (j := 1) v1).set (j := 2) v2).set (j := 3) v3).set (j := 4) v4).set (j := 5) v5).set (j := 6) v6).set (j := 7) v7).set (j := 8) v8).set (j := 9) v9).set (j := 10) v10
  simpa [st11] using this
theorem st11_kept {w : World} {b : Nat} (v0 v1 v2 v3 v4 v5 v6 v7 v8 v9 v10 : Value) : Kept (N1 b) w (st11 w b v0 v1 v2 v3 v4 v5 v6 v7 v8 v9 v10) :=
  ((((((((((((Kept.refl (N1 b) w).put (p := ⟨b, 0, none⟩) v0 (fun _ => rfl)).put (p := ⟨b, 1, none⟩) v1 (fun _ => rfl)).put (p := ⟨b, 2, none⟩) v2 (fun _ => rfl)).put (p := ⟨b, 3, none⟩) v3 (fun _ => rfl)).put (p := ⟨b, 4, none⟩) v4 (fun _ => rfl)).put (p := ⟨b, 5, none⟩) v5 (fun _ => rfl)).put (p := ⟨b, 6, none⟩) v6 (fun _ => rfl)).put (p := ⟨b, 7, none⟩) v7 (fun _ => rfl)).put (p := ⟨b, 8, none⟩) v8 (fun _ => rfl)).put (p := ⟨b, 9, none⟩) v9 (fun _ => rfl)).put (p := ⟨b, 10, none⟩) v10 (fun _ => rfl))
def Z11 : List Value := [.int .i64 0, .int .i64 0, .int .i64 0, .string ⟨#[]⟩, .int .i64 0, .int .i64 0, .int .u64 0, .string ⟨#[]⟩, .slice none 0 0, .slice none 0 0, .slice none 0 0]
def zbox (w : World) : World := w.alloc (.cells #[.int .i64 0, .int .i64 0, .int .i64 0, .string ⟨#[]⟩, .int .i64 0, .int .i64 0, .int .u64 0, .string ⟨#[]⟩, .slice none 0 0, .slice none 0 0, .slice none 0 0] 29)
theorem zbox_blk (w : World) : Blk (zbox w) w.heap.size Z11 := Blk.new w _ 29
theorem zbox_below (w : World) : Below w.heap.size w (zbox w) := (Below.refl _ _).alloc (Nat.le_refl _) _
theorem zbox_size (w : World) : (zbox w).heap.size = w.heap.size + 1 := by simp [zbox]
/-- a result that stands in a cell of its own -/
theorem er_fin {fn : Func} {tmps : Array Value} {w w1 : World} {v0 v1 v2 v3 v4 v5 v6 v7 v8 v9 v10 : Value} {b : Nat} (hr : fn.results = #[ResultVar.cell 2 29]) (ht : tmps.getD 2 undef = .pointer (some ⟨b, 0, none⟩)) (hb : w.heap.size ≤ b) (hB : Below w.heap.size w w1) (h : Blk w1 b Z11) :
    bodyPost Tryz.prog fn (fun e w' => e = .returned (.agg #[v0, v1, v2, v3, v4, v5, v6, v7, v8, v9, v10]) ∧ Below w.heap.size w w') Exit.ret { tmps := tmps, defers := [] } (st11 w1 b v0 v1 v2 v3 v4 v5 v6 v7 v8 v9 v10) := by
  have h' := st11_blk h v0 v1 v2 v3 v4 v5 v6 v7 v8 v9 v10
  have ht' : tmps[2]?.getD undef = .pointer (some ⟨b, 0, none⟩) := by simpa using ht
  have c0 := h'.cell 0 rfl; have c1 := h'.cell 1 rfl; have c2 := h'.cell 2 rfl; have c3 := h'.cell 3 rfl; have c4 := h'.cell 4 rfl; have c5 := h'.cell 5 rfl; have c6 := h'.cell 6 rfl; have c7 := h'.cell 7 rfl; have c8 := h'.cell 8 rfl; have c9 := h'.cell 9 rfl; have c10 := h'.cell 10 rfl
  refine bodyPost_ret (v := .agg #[v0, v1, v2, v3, v4, v5, v6, v7, v8, v9, v10]) ?_ rfl ⟨rfl, ?_⟩
  · simp [results, hr, go_sem, ht', c0, c1, c2, c3, c4, c5, c6, c7, c8, c9, c10]
  · exact ((Kept.of' (N := N1 b) hB).trans (st11_kept _ _ _ _ _ _ _ _ _ _ _)).below (Nat.le_refl _) (fun x hx e => by unfold N1 at e; omega)

set_option maxRecDepth 100000 in
set_option maxHeartbeats 4000000 in
theorem plain5 (w : World) : Calls Tryz.prog 34 #[.int .i64 5] w (fun e w' => e = .returned P0 ∧ Below w.heap.size w w') := by
  have hA := zbox_blk w
  have hB := zbox_below w
  go_enter Tryz.func34, Tryz.ntmps34
  go_upto_region 1 with (fail)
  change Code.wp _ _ _ _ (zbox w)
  generalize zbox w = w1 at *
  have c0 := hA.cell 0 rfl; have c1 := hA.cell 1 rfl; have c2 := hA.cell 2 rfl; have c3 := hA.cell 3 rfl; have c4 := hA.cell 4 rfl; have c5 := hA.cell 5 rfl; have c6 := hA.cell 6 rfl; have c7 := hA.cell 7 rfl; have c8 := hA.cell 8 rfl; have c9 := hA.cell 9 rfl; have c10 := hA.cell 10 rfl
  have f0 := hA.free 0 (by simp [Z11]); have f1 := hA.free 1 (by simp [Z11]); have f2 := hA.free 2 (by simp [Z11]); have f3 := hA.free 3 (by simp [Z11]); have f4 := hA.free 4 (by simp [Z11]); have f5 := hA.free 5 (by simp [Z11]); have f6 := hA.free 6 (by simp [Z11]); have f7 := hA.free 7 (by simp [Z11]); have f8 := hA.free 8 (by simp [Z11]); have f9 := hA.free 9 (by simp [Z11]); have f10 := hA.free 10 (by simp [Z11])
  have HA := Lib.hid hA
  have HB := Lib.hid hB
  clear hA hB
  go_wp2_with fail
  exact er_fin Tryz.results34 rfl (Nat.le_refl _) HB.out HA.out
/-- the wrapped one in memory -/
def WAt (w : World) (p b off : Nat) : Prop := Blk w p (VW0 (some ⟨b, off, none⟩)) ∧ b < w.heap.size ∧ ∀ j, j < 11 → w.cell? ⟨b, off + j, none⟩ = VP0[j]?
theorem WAt.below {w w' : World} {p b off : Nat} (h : WAt w p b off) (hB : Below w.heap.size w w') : WAt w' p b off :=
  ⟨h.1.below hB, Nat.lt_of_lt_of_le h.2.1 hB.size, fun j hj => by rw [← h.2.2 j hj]; exact World.cell?_of_block (a := ⟨b, off + j, none⟩) (hB.block b h.2.1)⟩
set_option maxRecDepth 100000 in
/-- Unwrap of a wrapped one -/
theorem unwrap149 {p b off : Nat} {w : World} (hW : WAt w p b off) :
    Calls Tryz.prog 149 #[.pointer (some ⟨p, 0, none⟩)] w (fun e w' => e = .returned I0 ∧ Below w.heap.size w w') := by
  obtain ⟨hA, hlt, hP⟩ := hW
  clear hlt
  have c10 := hA.cell 10 rfl
  have v0 := hP 0 (by omega); have v1 := hP 1 (by omega); have v2 := hP 2 (by omega); have v3 := hP 3 (by omega); have v4 := hP 4 (by omega); have v5 := hP 5 (by omega); have v6 := hP 6 (by omega); have v7 := hP 7 (by omega); have v8 := hP 8 (by omega); have v9 := hP 9 (by omega); have v10 := hP 10 (by omega)
  simp only [VP0, V11, Dt.zero, List.getElem?_cons_zero, List.getElem?_cons_succ, Nat.add_zero] at v0 v1 v2 v3 v4 v5 v6 v7 v8 v9 v10
  have HC := Lib.hid (evalueN 1 0 5 [112] Dt.zero none 0 0 none 0 0 none 0 0 w)
  unfold vE Dt.zero at HC
  clear hA hP
  go_enter Tryz.func149, Tryz.ntmps149
  go_wp2_with (go_at_call 50; (with_reducible refine HC.out.mono ?_); rintro e2 w2 ⟨rfl, hB, _⟩; have HB2 := Lib.hid hB; clear hB)
  go_ret
  exact ⟨rfl, HB2.out⟩
set_option maxRecDepth 100000 in
theorem error146 (w : World) : Calls Tryz.prog 146 #[.agg #[.int .i64 5, .string ⟨#[112]⟩]] w (fun e w' => e = .returned (.string ⟨#[112]⟩) ∧ Below w.heap.size w w') := by
  have hA := Blk.new w #[.int .i64 5, .string ⟨#[112]⟩] 101
  have hB : Below w.heap.size w (w.alloc (.cells #[.int .i64 5, .string ⟨#[112]⟩] 101)) := (Below.refl _ _).alloc (Nat.le_refl _) _
  go_enter Tryz.func146, Tryz.ntmps146
  go_upto_region 1 with (fail)
  generalize w.alloc (.cells #[.int .i64 5, .string ⟨#[112]⟩] 101) = w1 at *
  have c0 := hA.cell 0 rfl; have c1 := hA.cell 1 rfl
  go_wp2_with fail
  go_ret
  exact ⟨rfl, hB⟩
theorem m101e (v : Value) (w : World) : (method 389 101 v "Error").run Tryz.prog w = .ok (146, v) w := by kernel_rfl
set_option maxRecDepth 100000 in
theorem behind151 (w : World) : Calls Tryz.prog 151 #[.string ⟨#[119]⟩, I0] w (fun e w' => e = .returned (.string ⟨#[119, 58, 32, 112]⟩) ∧ Below w.heap.size w w') := by
  have HC := Lib.hid (error146 w)
  have hm := m101e (.agg #[.int .i64 5, .string ⟨#[112]⟩]) w
  unfold I0
  go_enter Tryz.func151, Tryz.ntmps151
  go_wp2_with (go_at_call 146; (with_reducible refine HC.out.mono ?_); rintro e2 w2 ⟨rfl, hB⟩; have HB2 := Lib.hid hB; clear hB)
  go_ret
  exact ⟨rfl, HB2.out⟩
theorem m102u (v : Value) (w : World) : (method 389 102 v "Unwrap").run Tryz.prog w = .ok (149, v) w := by kernel_rfl
theorem m102e (v : Value) (w : World) : (method 389 102 v "Error").run Tryz.prog w = .ok (148, v) w := by kernel_rfl
theorem m102m (v : Value) (w : World) : (method 389 102 v "conduit/errs.made").run Tryz.prog w = .ok (150, v) w := by kernel_rfl
theorem m101m (v : Value) (w : World) : (method 389 101 v "conduit/errs.made").run Tryz.prog w = .ok (147, v) w := by kernel_rfl
set_option maxRecDepth 100000 in
set_option maxHeartbeats 4000000 in
theorem error148 {p b off : Nat} {w : World} (hW : WAt w p b off) :
    Calls Tryz.prog 148 #[.pointer (some ⟨p, 0, none⟩)] w (fun e w' => e = .returned (.string ⟨#[119, 58, 32, 112]⟩) ∧ Below w.heap.size w w') := by
  have c3 := hW.1.cell 3 rfl
  have HK := Lib.hid (show ∀ wx, Below w.heap.size w wx → wx.cell? ⟨p, 3, none⟩ = some (.string ⟨#[119]⟩) from fun wx hx => (hW.below hx).1.cell 3 rfl)
  have HU := Lib.hid (fun (wx : World) (hx : Below w.heap.size w wx) => unwrap149 (hW.below hx))
  clear hW
  go_enter Tryz.func148, Tryz.ntmps148
  go_upto_region 1 with fail
  go_region_held3 (fun wx : World => wx.cell? ⟨p, 3, none⟩ = some (.string ⟨#[119]⟩))
    (first | exact HK.out _ (Below.refl _ _) | exact HK.out _ (Below.refl _ _).drew | exact HK.out _ HB2.out | exact HK.out _ HB3.out)
    (first
      | (go_simp; go_at_call 149; (with_reducible refine (HU.out _ (Below.refl _ _).drew).mono ?_); rintro e2 w2 ⟨rfl, hB⟩; have HB2 := Lib.hid ((Below.refl w.heap.size w).drew.trans hB); have HC := Lib.hid (behind151 w2); clear hB)
      | (go_simp; go_at_call 151; (with_reducible refine HC.out.mono ?_); rintro e3 w3 ⟨rfl, hB⟩; have HB3 := Lib.hid (HB2.out.trans (hB.mono HB2.out.size)); clear hB))
  all_goals
    go_wp2_with fail
    go_ret
    exact ⟨rfl, HB3.out⟩
end Go.Proofs.YtbldidiibkcelaaGreatDoor
