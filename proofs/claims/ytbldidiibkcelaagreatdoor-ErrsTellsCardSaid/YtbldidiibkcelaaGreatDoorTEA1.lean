/-
  awake's one error: what its functions answer (walks). Not a statement of the seat.
-/
import Derived.Test.YtbldidiibkcelaaGreatDoorTEHas
import Derived.Test.YtbldidiibkcelaaGreatDoorTELook
import Derived.Recover
import Derived.Deep.RegionHeld3
namespace Go.Proofs.YtbldidiibkcelaaGreatDoor
open Go.RowKit

/-- the plain error -/
def P0 : Value := vE 1 0 5 [112] Dt.zero none 0 0 none 0 0 none 0 0
/-- .. as an error value -/
def I0 : Value := .iface 101 (.agg #[.int .i64 5, .string ⟨#[112]⟩])
/-- the one that wraps it -/
def W0 (l : Option Addr) : Value := vE 3 1 0 [119] Dt.zero none 0 0 none 0 0 l 1 1
def VP0 : List Value := V11 1 0 5 [112] Dt.zero none 0 0 none 0 0 none 0 0
def VW0 (l : Option Addr) : List Value := V11 3 1 0 [119] Dt.zero none 0 0 none 0 0 l 1 1
/-- a struct of eleven fields is stored -/
def st11 (w : World) (b : Nat) (v0 v1 v2 v3 v4 v5 v6 v7 v8 v9 v10 : Value) : World :=
  ((((((((((w.setCell ⟨b, 0, none⟩ v0).setCell ⟨b, 1, none⟩ v1).setCell ⟨b, 2, none⟩ v2).setCell ⟨b, 3, none⟩ v3).setCell ⟨b, 4, none⟩ v4).setCell ⟨b, 5, none⟩ v5).setCell ⟨b, 6, none⟩ v6).setCell ⟨b, 7, none⟩ v7).setCell ⟨b, 8, none⟩ v8).setCell ⟨b, 9, none⟩ v9).setCell ⟨b, 10, none⟩ v10
theorem st11_blk {w : World} {b : Nat} {u0 u1 u2 u3 u4 u5 u6 u7 u8 u9 u10 : Value} (h : Blk w b [u0, u1, u2, u3, u4, u5, u6, u7, u8, u9, u10]) (v0 v1 v2 v3 v4 v5 v6 v7 v8 v9 v10 : Value) : Blk (st11 w b v0 v1 v2 v3 v4 v5 v6 v7 v8 v9 v10) b [v0, v1, v2, v3, v4, v5, v6, v7, v8, v9, v10] := by
  have := ((((((((((h.set (j := 0) v0).set (j := 1) v1).set (j := 2) v2).set (j := 3) v3).set (j := 4) v4).set (j := 5) v5).set (j := 6) v6).set (j := 7) v7).set (j := 8) v8).set (j := 9) v9).set (j := 10) v10
  simpa [st11] using this
theorem st11_kept {w : World} {b : Nat} (v0 v1 v2 v3 v4 v5 v6 v7 v8 v9 v10 : Value) : Kept (N1 b) w (st11 w b v0 v1 v2 v3 v4 v5 v6 v7 v8 v9 v10) :=
  ((((((((((((Kept.refl (N1 b) w).put (p := ⟨b, 0, none⟩) v0 (fun _ => rfl)).put (p := ⟨b, 1, none⟩) v1 (fun _ => rfl)).put (p := ⟨b, 2, none⟩) v2 (fun _ => rfl)).put (p := ⟨b, 3, none⟩) v3 (fun _ => rfl)).put (p := ⟨b, 4, none⟩) v4 (fun _ => rfl)).put (p := ⟨b, 5, none⟩) v5 (fun _ => rfl)).put (p := ⟨b, 6, none⟩) v6 (fun _ => rfl)).put (p := ⟨b, 7, none⟩) v7 (fun _ => rfl)).put (p := ⟨b, 8, none⟩) v8 (fun _ => rfl)).put (p := ⟨b, 9, none⟩) v9 (fun _ => rfl)).put (p := ⟨b, 10, none⟩) v10 (fun _ => rfl))
def Z11 : List Value := [.int .i64 0, .int .i64 0, .int .i64 0, .string ⟨#[]⟩, .int .i64 0, .int .i64 0, .int .u64 0, .string ⟨#[]⟩, .slice none 0 0, .slice none 0 0, .slice none 0 0]
def zbox (w : World) : World := w.alloc (.cells #[.int .i64 0, .int .i64 0, .int .i64 0, .string ⟨#[]⟩, .int .i64 0, .int .i64 0, .int .u64 0, .string ⟨#[]⟩, .slice none 0 0, .slice none 0 0, .slice none 0 0] 29)
theorem zbox_blk (w : World) : Blk (zbox w) w.heap.size Z11 := Blk.new w _ 29
theorem zbox_below (w : World) : Below w.heap.size w (zbox w) := (Below.refl _ _).alloc (Nat.le_refl _) _
theorem zbox_size (w : World) : (zbox w).heap.size = w.heap.size + 1 := by simp [zbox]
/-- a result that stands in a cell of its own -/
theorem er_fin {fn : Func} {tmps : Array Value} {w w1 : World} {v0 v1 v2 v3 v4 v5 v6 v7 v8 v9 v10 : Value} {b : Nat} (hr : fn.results = #[ResultVar.cell 2 29]) (ht : tmps.getD 2 undef = .pointer (some ⟨b, 0, none⟩)) (hb : w.heap.size ≤ b) (hB : Below w.heap.size w w1) (h : Blk w1 b Z11) :
    bodyPost Tryz.prog fn (fun e w' => e = .returned (.agg #[v0, v1, v2, v3, v4, v5, v6, v7, v8, v9, v10]) ∧ Below w.heap.size w w') Exit.ret { tmps := tmps, defers := [] } (st11 w1 b v0 v1 v2 v3 v4 v5 v6 v7 v8 v9 v10) := by
  have h' := st11_blk h v0 v1 v2 v3 v4 v5 v6 v7 v8 v9 v10
  have ht' : tmps[2]?.getD undef = .pointer (some ⟨b, 0, none⟩) := by simpa using ht
  have c0 := h'.cell 0 rfl; have c1 := h'.cell 1 rfl; have c2 := h'.cell 2 rfl; have c3 := h'.cell 3 rfl; have c4 := h'.cell 4 rfl; have c5 := h'.cell 5 rfl; have c6 := h'.cell 6 rfl; have c7 := h'.cell 7 rfl; have c8 := h'.cell 8 rfl; have c9 := h'.cell 9 rfl; have c10 := h'.cell 10 rfl
  refine bodyPost_ret (v := .agg #[v0, v1, v2, v3, v4, v5, v6, v7, v8, v9, v10]) ?_ rfl ⟨rfl, ?_⟩
  · simp [results, hr, go_sem, ht', c0, c1, c2, c3, c4, c5, c6, c7, c8, c9, c10]
  · exact ((Kept.of' (N := N1 b) hB).trans (st11_kept _ _ _ _ _ _ _ _ _ _ _)).below (Nat.le_refl _) (fun x hx e => by unfold N1 at e; omega)
set_option maxRecDepth 100000 in
set_option maxHeartbeats 4000000 in
theorem plain5 (w : World) : Calls Tryz.prog 34 #[.int .i64 5] w (fun e w' => e = .returned P0 ∧ Below w.heap.size w w') := by
  have hA := zbox_blk w
  have hB := zbox_below w
  go_enter Tryz.func34, Tryz.ntmps34
  go_upto_region 1 with (fail)
  change Code.wp _ _ _ _ (zbox w)
  generalize zbox w = w1 at *
  have c0 := hA.cell 0 rfl; have c1 := hA.cell 1 rfl; have c2 := hA.cell 2 rfl; have c3 := hA.cell 3 rfl; have c4 := hA.cell 4 rfl; have c5 := hA.cell 5 rfl; have c6 := hA.cell 6 rfl; have c7 := hA.cell 7 rfl; have c8 := hA.cell 8 rfl; have c9 := hA.cell 9 rfl; have c10 := hA.cell 10 rfl
  have f0 := hA.free 0 (by simp [Z11]); have f1 := hA.free 1 (by simp [Z11]); have f2 := hA.free 2 (by simp [Z11]); have f3 := hA.free 3 (by simp [Z11]); have f4 := hA.free 4 (by simp [Z11]); have f5 := hA.free 5 (by simp [Z11]); have f6 := hA.free 6 (by simp [Z11]); have f7 := hA.free 7 (by simp [Z11]); have f8 := hA.free 8 (by simp [Z11]); have f9 := hA.free 9 (by simp [Z11]); have f10 := hA.free 10 (by simp [Z11])
  have HA := Lib.hid hA
  have HB := Lib.hid hB
  clear hA hB
  go_wp2_with fail
  exact er_fin Tryz.results34 rfl (Nat.le_refl _) HB.out HA.out
/-- the wrapped one in memory -/
def WAt (w : World) (p b off : Nat) : Prop := Blk w p (VW0 (some ⟨b, off, none⟩)) ∧ b < w.heap.size ∧ ∀ j, j < 11 → w.cell? ⟨b, off + j, none⟩ = VP0[j]?
theorem WAt.below {w w' : World} {p b off : Nat} (h : WAt w p b off) (hB : Below w.heap.size w w') : WAt w' p b off :=
  ⟨h.1.below hB, Nat.lt_of_lt_of_le h.2.1 hB.size, fun j hj => by rw [← h.2.2 j hj]; exact World.cell?_of_block (a := ⟨b, off + j, none⟩) (hB.block b h.2.1)⟩
set_option maxRecDepth 100000 in
/-- Unwrap of a wrapped one -/
theorem unwrap149 {p b off : Nat} {w : World} (hW : WAt w p b off) :
    Calls Tryz.prog 149 #[.pointer (some ⟨p, 0, none⟩)] w (fun e w' => e = .returned I0 ∧ Below w.heap.size w w') := by
  obtain ⟨hA, hlt, hP⟩ := hW
  clear hlt
  have c10 := hA.cell 10 rfl
  have v0 := hP 0 (by omega); have v1 := hP 1 (by omega); have v2 := hP 2 (by omega); have v3 := hP 3 (by omega); have v4 := hP 4 (by omega); have v5 := hP 5 (by omega); have v6 := hP 6 (by omega); have v7 := hP 7 (by omega); have v8 := hP 8 (by omega); have v9 := hP 9 (by omega); have v10 := hP 10 (by omega)
  simp only [VP0, V11, Dt.zero, List.getElem?_cons_zero, List.getElem?_cons_succ, Nat.add_zero] at v0 v1 v2 v3 v4 v5 v6 v7 v8 v9 v10
  have HC := Lib.hid (evalueN 1 0 5 [112] Dt.zero none 0 0 none 0 0 none 0 0 w)
  unfold vE Dt.zero at HC
  clear hA hP
  go_enter Tryz.func149, Tryz.ntmps149
  go_wp2_with (go_at_call 50; (with_reducible refine HC.out.mono ?_); rintro e2 w2 ⟨rfl, hB, _⟩; have HB2 := Lib.hid hB; clear hB)
  go_ret
  exact ⟨rfl, HB2.out⟩
set_option maxRecDepth 100000 in
theorem error146 (w : World) : Calls Tryz.prog 146 #[.agg #[.int .i64 5, .string ⟨#[112]⟩]] w (fun e w' => e = .returned (.string ⟨#[112]⟩) ∧ Below w.heap.size w w') := by
  have hA := Blk.new w #[.int .i64 5, .string ⟨#[112]⟩] 101
  have hB : Below w.heap.size w (w.alloc (.cells #[.int .i64 5, .string ⟨#[112]⟩] 101)) := (Below.refl _ _).alloc (Nat.le_refl _) _
  go_enter Tryz.func146, Tryz.ntmps146
  go_upto_region 1 with (fail)
  generalize w.alloc (.cells #[.int .i64 5, .string ⟨#[112]⟩] 101) = w1 at *
  have c0 := hA.cell 0 rfl; have c1 := hA.cell 1 rfl
  go_wp2_with fail
  go_ret
  exact ⟨rfl, hB⟩
theorem m101e (v : Value) (w : World) : (method 389 101 v "Error").run Tryz.prog w = .ok (146, v) w := by kernel_rfl
set_option maxRecDepth 100000 in
theorem behind151 (w : World) : Calls Tryz.prog 151 #[.string ⟨#[119]⟩, I0] w (fun e w' => e = .returned (.string ⟨#[119, 58, 32, 112]⟩) ∧ Below w.heap.size w w') := by
  have HC := Lib.hid (error146 w)
  have hm := m101e (.agg #[.int .i64 5, .string ⟨#[112]⟩]) w
  unfold I0
  go_enter Tryz.func151, Tryz.ntmps151
  go_wp2_with (go_at_call 146; (with_reducible refine HC.out.mono ?_); rintro e2 w2 ⟨rfl, hB⟩; have HB2 := Lib.hid hB; clear hB)
  go_ret
  exact ⟨rfl, HB2.out⟩
theorem m102u (v : Value) (w : World) : (method 389 102 v "Unwrap").run Tryz.prog w = .ok (149, v) w := by kernel_rfl
theorem m102e (v : Value) (w : World) : (method 389 102 v "Error").run Tryz.prog w = .ok (148, v) w := by kernel_rfl
theorem m102m (v : Value) (w : World) : (method 389 102 v "conduit/errs.made").run Tryz.prog w = .ok (150, v) w := by kernel_rfl
theorem m101m (v : Value) (w : World) : (method 389 101 v "conduit/errs.made").run Tryz.prog w = .ok (147, v) w := by kernel_rfl
set_option maxRecDepth 100000 in
set_option maxHeartbeats 4000000 in
theorem error148 {p b off : Nat} {w : World} (hW : WAt w p b off) :
    Calls Tryz.prog 148 #[.pointer (some ⟨p, 0, none⟩)] w (fun e w' => e = .returned (.string ⟨#[119, 58, 32, 112]⟩) ∧ Below w.heap.size w w') := by
  have c3 := hW.1.cell 3 rfl
  have HK := Lib.hid (show ∀ wx, Below w.heap.size w wx → wx.cell? ⟨p, 3, none⟩ = some (.string ⟨#[119]⟩) from fun wx hx => (hW.below hx).1.cell 3 rfl)
  have HU := Lib.hid (fun (wx : World) (hx : Below w.heap.size w wx) => unwrap149 (hW.below hx))
  clear hW
  go_enter Tryz.func148, Tryz.ntmps148
  go_upto_region 1 with fail
  go_region_held3 (fun wx : World => wx.cell? ⟨p, 3, none⟩ = some (.string ⟨#[119]⟩))
    (first | exact HK.out _ (Below.refl _ _) | exact HK.out _ (Below.refl _ _).drew | exact HK.out _ HB2.out | exact HK.out _ HB3.out)
    (first
      | (go_simp; go_at_call 149; (with_reducible refine (HU.out _ (Below.refl _ _).drew).mono ?_); rintro e2 w2 ⟨rfl, hB⟩; have HB2 := Lib.hid ((Below.refl w.heap.size w).drew.trans hB); have HC := Lib.hid (behind151 w2); clear hB)
      | (go_simp; go_at_call 151; (with_reducible refine HC.out.mono ?_); rintro e3 w3 ⟨rfl, hB⟩; have HB3 := Lib.hid (HB2.out.trans (hB.mono HB2.out.size)); clear hB))
  all_goals
    go_wp2_with fail
    go_ret
    exact ⟨rfl, HB3.out⟩
end Go.Proofs.YtbldidiibkcelaaGreatDoor

/-
  Text of awake's error (walk). Not a statement of the seat.
-/
namespace Go.Proofs.YtbldidiibkcelaaGreatDoor
open Go.RowKit

/-- the plain one's eleven cells in memory -/
def PAt (w : World) (b off : Nat) : Prop := b < w.heap.size ∧ ∀ j, j < 11 → w.cell? ⟨b, off + j, none⟩ = VP0[j]?
theorem PAt.below {w w' : World} {b off : Nat} (h : PAt w b off) (hB : Below w.heap.size w w') : PAt w' b off :=
  ⟨Nat.lt_of_lt_of_le h.1 hB.size, fun j hj => by rw [← h.2 j hj]; exact World.cell?_of_block (a := ⟨b, off + j, none⟩) (hB.block b h.1)⟩
def IW (p : Nat) : Value := .iface 102 (.pointer (some ⟨p, 0, none⟩))
theorem valueW {b off : Nat} {w : World} (hP : PAt w b off) : Calls Tryz.prog 50 #[W0 (some ⟨b, off, none⟩)] w (fun e w' => ∃ p, e = .returned (IW p) ∧ WAt w' p b off ∧ Below w.heap.size w w' ∧ w.heap.size ≤ p ∧ p < w'.heap.size) := by
  refine (evalueN 3 1 0 [119] Dt.zero none 0 0 none 0 0 (some ⟨b, off, none⟩) 1 1 w).mono ?_
  rintro e w' ⟨rfl, hB, _, hP2⟩
  have h := hP2 (.inr (.inl rfl))
  exact ⟨w.heap.size + 1, rfl, ⟨h, (hP.below hB).1, (hP.below hB).2⟩, hB, by omega, h.1⟩
theorem catch_idle61 (p q : Addr) (w : World) :
    CallsD Tryz.prog 61 #[.pointer (some p), .pointer (some q)] .returning w fun e u' w' => e = .returned (.tuple #[]) ∧ u' = .returning ∧ w' = w := by
  refine callsD_of_wpS Tryz.func61 rfl fun c₀ cs hu => ?_
  apply wpS_seq
  apply wpS_region
  simp [wpOpsS, go_sem, recoverD, hu, Tryz.ntmps61, Exit.thenS]
  refine wpS_cond (t := false) (by simp [Act.eval, Array.replicate]) ?_
  simp only [Bool.false_eq_true, if_false]
  refine wpS_of_wp (wp_skip ?_)
  cases c₀
  simp_all [bodyPostS, results, Tryz.results61]
theorem t_res {tmps : Array Value} {w : World} {ib er : Nat} {x : ByteArray} {y : Int} (h2 : tmps.getD 2 undef = .pointer (some ⟨ib, 0, none⟩)) (h3 : tmps.getD 3 undef = .pointer (some ⟨er, 0, none⟩)) (hi : Blk w ib [.string x]) (he : Blk w er [.int .i64 y]) :
    (results Tryz.f26 tmps).run Tryz.prog w = .ok (.tuple #[.string x, .int .i64 y]) w := by
  have c0 := hi.cell 0 rfl
  have d0 := he.cell 0 rfl
  have h2' : tmps[2]?.getD undef = .pointer (some ⟨ib, 0, none⟩) := by simpa using h2
  have h3' : tmps[3]?.getD undef = .pointer (some ⟨er, 0, none⟩) := by simpa using h3
  simp [results, Tryz.results26, go_sem, h2', h3', c0, d0]
/-- the blocks that Text lays first -/
def tw (w : World) (l : Option Addr) : World := ((ebox w 3 1 0 [119] Dt.zero none 0 0 none 0 0 l 1 1).alloc (.cells #[.string ⟨#[]⟩] 9)).alloc (.cells #[.int .i64 0] 32)
theorem tw_facts (w : World) (l : Option Addr) : Blk (tw w l) w.heap.size (VW0 l) ∧ Blk (tw w l) (w.heap.size + 1) [.string ⟨#[]⟩] ∧ Blk (tw w l) (w.heap.size + 1 + 1) [.int .i64 0] ∧ Below w.heap.size w (tw w l) ∧ (tw w l).heap.size = w.heap.size + 3 := by
  have e1 := ebox_size w 3 1 0 [119] Dt.zero none 0 0 none 0 0 l 1 1
  have h1 := ebox_blk w 3 1 0 [119] Dt.zero none 0 0 none 0 0 l 1 1
  have hb := ebox_below w 3 1 0 [119] Dt.zero none 0 0 none 0 0 l 1 1
  unfold tw
  generalize ebox w 3 1 0 [119] Dt.zero none 0 0 none 0 0 l 1 1 = w1 at *
  have e2 : (w1.alloc (.cells #[.string ⟨#[]⟩] 9)).heap.size = w.heap.size + 1 + 1 := by simp [e1]
  have n1 := Blk.new w1 #[.string ⟨#[]⟩] 9
  have n2 := Blk.new (w1.alloc (.cells #[.string ⟨#[]⟩] 9)) #[.int .i64 0] 32
  rw [e1] at n1
  rw [e2] at n2
  exact ⟨(h1.alloc _).alloc _, n1.alloc _, n2, (hb.alloc hb.size _).alloc (by rw [e2]; omega) _, by simp [e1]⟩
set_option maxHeartbeats 8000000 in
set_option maxRecDepth 100000 in
theorem textW {b off : Nat} {w : World} (hP : PAt w b off) : Calls Tryz.prog 26 #[W0 (some ⟨b, off, none⟩)] w (fun e w' => e = .returned (.tuple #[.string ⟨#[119, 58, 32, 112]⟩, .int .i64 0]) ∧ Below w.heap.size w w') := by
  obtain ⟨hA, hI, hE, hB, hz⟩ := tw_facts w (some ⟨b, off, none⟩)
  have hmf : ∀ (fn : Fn) (first cap : Array Value) (w : World), (Instr.makeFunc fn first cap).run Tryz.prog w = .ok (.func fn first cap) w := fun _ _ _ _ => rfl
  have hm := fun v w => m102e v w
  have HP := Lib.hid hP
  have HB := Lib.hid hB
  have HZ := Lib.hid hz
  clear hP hB hz
  unfold W0 vE Dt.zero
  go_enter_defers Tryz.func26, Tryz.ntmps26
  go_upto_region 1 with (fail)
  change Code.wp _ _ _ _ (tw w (some ⟨b, off, none⟩))
  generalize tw w (some ⟨b, off, none⟩) = w1 at *
  have HC := Lib.hid (valueW (HP.out.below HB.out))
  unfold W0 vE at HC
  obtain ⟨er, her⟩ : ∃ x, x = w.heap.size + 1 + 1 := ⟨_, rfl⟩
  obtain ⟨ib, hib⟩ : ∃ x, x = w.heap.size + 1 := ⟨_, rfl⟩
  rw [← her] at hE
  rw [← hib] at hI
  rw [← her, ← hib]
  have HAD := Lib.hid (show ib = w.heap.size + 1 ∧ er = w.heap.size + 2 from ⟨hib, by omega⟩)
  have x0 := hA.cell 0 rfl; have x1 := hA.cell 1 rfl; have x2 := hA.cell 2 rfl; have x3 := hA.cell 3 rfl; have x4 := hA.cell 4 rfl; have x5 := hA.cell 5 rfl; have x6 := hA.cell 6 rfl; have x7 := hA.cell 7 rfl; have x8 := hA.cell 8 rfl; have x9 := hA.cell 9 rfl; have x10 := hA.cell 10 rfl
  have HI := Lib.hid hI
  have HE := Lib.hid hE
  clear hA hI hE her hib
  go_upto_region 2 with (go_at_call 50; (with_reducible refine HC.out.mono ?_); rintro eA wA ⟨p, rfl, hW, hBA, hp1, hp2⟩; have HBA := Lib.hid hBA; have HER := Lib.hid (error148 hW); have HI2 := Lib.hid (HI.out.below hBA); have HE2 := Lib.hid (HE.out.below hBA); clear hBA hW hp1 hp2)
  clear x0 x1 x2 x3 x4 x5 x6 x7 x8 x9 x10
  unfold IW
  go_wp2_with (go_at_call 148; (with_reducible refine HER.out.mono ?_); rintro eB wB ⟨rfl, hB⟩; have HBB := Lib.hid hB; have hi := HI2.out.below hB; have he := HE2.out.below hB; have i0 := hi.cell 0 rfl; have i1 := hi.free 0 (by simp); have e0 := he.cell 0 rfl; have e1 := he.free 0 (by simp); have hne : ib ≠ er := (by have := HAD.out; omega); have HI3 := Lib.hid hi; have HE3 := Lib.hid he; clear hB hi he)
  have hne : er ≠ ib := by have := HAD.out; omega
  refine leaves_cons (f := 61) (args := #[.pointer (some ⟨ib, 0, none⟩), .pointer (some ⟨er, 0, none⟩)]) (by simp) (by simp [go_sem]) ?_
  refine (catch_idle61 _ _ _).mono ?_
  rintro e u' w'' ⟨rfl, rfl, rfl⟩
  have hi4 := (HI3.out.set (j := 0) (.string ⟨#[119, 58, 32, 112]⟩)).other (p := ⟨er, 0, none⟩) (.int .i64 0) hne
  have he4 := (HE3.out.other (p := ⟨ib, 0, none⟩) (.string ⟨#[119, 58, 32, 112]⟩) (Ne.symm hne)).set (j := 0) (.int .i64 0)
  refine ⟨_, t_res rfl rfl hi4 he4, rfl, ?_⟩
  have h1 : Kept (fun x => x = ib ∨ x = er) wB ((wB.setCell ⟨ib, 0, none⟩ (.string ⟨#[119, 58, 32, 112]⟩)).setCell ⟨er, 0, none⟩ (.int .i64 0)) :=
    ((Kept.refl _ _).put (p := ⟨ib, 0, none⟩) _ (fun _ => .inl rfl)).put (p := ⟨er, 0, none⟩) _ (fun _ => .inr rfl)
  have h2 : Below w.heap.size w wB := HB.out.trans ((HBA.out.trans (HBB.out.mono HBA.out.size)).mono HB.out.size)
  exact h2.trans (h1.below h2.size (fun x hx h => by have := HAD.out; omega))
end Go.Proofs.YtbldidiibkcelaaGreatDoor

/-
  made and equal at awake's errors (walks). Not a statement of the seat.
-/
namespace Go.Proofs.YtbldidiibkcelaaGreatDoor
open Go.RowKit

set_option maxRecDepth 100000 in
set_option maxHeartbeats 4000000 in
theorem made150 {p b off : Nat} {w : World} (hW : WAt w p b off) : Calls Tryz.prog 150 #[.pointer (some ⟨p, 0, none⟩)] w (fun e w' => e = .returned (W0 (some ⟨b, off, none⟩)) ∧ Below w.heap.size w w') := by
  have hA := zbox_blk w
  have hB := zbox_below w
  have hx := hW.1.below hB
  clear hW
  go_enter Tryz.func150, Tryz.ntmps150
  go_upto_region 1 with (fail)
  change Code.wp _ _ _ _ (zbox w)
  generalize zbox w = w1 at *
  have c0 := hA.cell 0 rfl; have c1 := hA.cell 1 rfl; have c2 := hA.cell 2 rfl; have c3 := hA.cell 3 rfl; have c4 := hA.cell 4 rfl; have c5 := hA.cell 5 rfl; have c6 := hA.cell 6 rfl; have c7 := hA.cell 7 rfl; have c8 := hA.cell 8 rfl; have c9 := hA.cell 9 rfl; have c10 := hA.cell 10 rfl
  have x0 := hx.cell 0 rfl; have x1 := hx.cell 1 rfl; have x2 := hx.cell 2 rfl; have x3 := hx.cell 3 rfl; have x4 := hx.cell 4 rfl; have x5 := hx.cell 5 rfl; have x6 := hx.cell 6 rfl; have x7 := hx.cell 7 rfl; have x8 := hx.cell 8 rfl; have x9 := hx.cell 9 rfl; have x10 := hx.cell 10 rfl
  have f0 := hA.free 0 (by simp [Z11]); have f1 := hA.free 1 (by simp [Z11]); have f2 := hA.free 2 (by simp [Z11]); have f3 := hA.free 3 (by simp [Z11]); have f4 := hA.free 4 (by simp [Z11]); have f5 := hA.free 5 (by simp [Z11]); have f6 := hA.free 6 (by simp [Z11]); have f7 := hA.free 7 (by simp [Z11]); have f8 := hA.free 8 (by simp [Z11]); have f9 := hA.free 9 (by simp [Z11]); have f10 := hA.free 10 (by simp [Z11])
  have HA := Lib.hid hA
  have HB := Lib.hid hB
  clear hA hB hx
  go_wp2_with fail
  exact er_fin Tryz.results150 rfl (Nat.le_refl _) HB.out HA.out
set_option maxRecDepth 100000 in
set_option maxHeartbeats 4000000 in
theorem made147 (w : World) : Calls Tryz.prog 147 #[.agg #[.int .i64 5, .string ⟨#[112]⟩]] w (fun e w' => e = .returned P0 ∧ Below w.heap.size w w') := by
  have hP := Blk.new w #[.int .i64 5, .string ⟨#[112]⟩] 101
  have hBP : Below w.heap.size w (w.alloc (.cells #[.int .i64 5, .string ⟨#[112]⟩] 101)) := (Below.refl _ _).alloc (Nat.le_refl _) _
  have hz : (w.alloc (.cells #[.int .i64 5, .string ⟨#[112]⟩] 101)).heap.size = w.heap.size + 1 := by simp
  go_enter Tryz.func147, Tryz.ntmps147
  go_upto_region 1 with (fail)
  change Code.wp _ _ _ _ (zbox (w.alloc (.cells #[.int .i64 5, .string ⟨#[112]⟩] 101)))
  generalize w.alloc (.cells #[.int .i64 5, .string ⟨#[112]⟩] 101) = w0 at *
  have hA := zbox_blk w0
  have hB := zbox_below w0
  have hB2 : Below w.heap.size w (zbox w0) := hBP.trans (hB.mono hBP.size)
  have hx := hP.below hB
  rw [hz] at hA
  generalize zbox w0 = w1 at *
  have c0 := hA.cell 0 rfl; have c1 := hA.cell 1 rfl; have c2 := hA.cell 2 rfl; have c3 := hA.cell 3 rfl; have c4 := hA.cell 4 rfl; have c5 := hA.cell 5 rfl; have c6 := hA.cell 6 rfl; have c7 := hA.cell 7 rfl; have c8 := hA.cell 8 rfl; have c9 := hA.cell 9 rfl; have c10 := hA.cell 10 rfl
  have x0 := hx.cell 0 rfl; have x1 := hx.cell 1 rfl
  have f0 := hA.free 0 (by simp [Z11]); have f1 := hA.free 1 (by simp [Z11]); have f2 := hA.free 2 (by simp [Z11]); have f3 := hA.free 3 (by simp [Z11]); have f4 := hA.free 4 (by simp [Z11]); have f5 := hA.free 5 (by simp [Z11]); have f6 := hA.free 6 (by simp [Z11]); have f7 := hA.free 7 (by simp [Z11]); have f8 := hA.free 8 (by simp [Z11]); have f9 := hA.free 9 (by simp [Z11]); have f10 := hA.free 10 (by simp [Z11])
  have HA := Lib.hid hA
  have HB := Lib.hid hB2
  clear hA hB hB2 hx hP hBP hz
  go_wp2_with fail
  exact er_fin Tryz.results147 rfl (by omega) HB.out HA.out
/-- the two boxes that equal lays first -/
def two (w : World) (k i c : Int) (t : Bs) (l : Option Addr) (n : Nat) : World := ebox (ebox w k i c t Dt.zero none 0 0 none 0 0 l n n) 1 0 5 [112] Dt.zero none 0 0 none 0 0 none 0 0
theorem two_facts (w : World) (k i c : Int) (t : Bs) (l : Option Addr) (n : Nat) : Blk (two w k i c t l n) w.heap.size (V11 k i c t Dt.zero none 0 0 none 0 0 l n n) ∧ Blk (two w k i c t l n) (w.heap.size + 1) VP0 ∧ Below w.heap.size w (two w k i c t l n) := by
  have e1 := ebox_size w k i c t Dt.zero none 0 0 none 0 0 l n n
  have h1 := ebox_blk w k i c t Dt.zero none 0 0 none 0 0 l n n
  have hb := ebox_below w k i c t Dt.zero none 0 0 none 0 0 l n n
  unfold two
  generalize ebox w k i c t Dt.zero none 0 0 none 0 0 l n n = w1 at *
  have h2 := ebox_blk w1 1 0 5 [112] Dt.zero none 0 0 none 0 0 none 0 0
  have hb2 := ebox_below w1 1 0 5 [112] Dt.zero none 0 0 none 0 0 none 0 0
  rw [e1] at h2
  exact ⟨h1.below hb2, h2, hb.trans (hb2.mono hb.size)⟩
set_option maxRecDepth 100000 in
set_option maxHeartbeats 4000000 in
theorem equalW {l : Option Addr} (w : World) : Calls Tryz.prog 43 #[W0 l, P0] w (fun e w' => e = .returned (.bool false) ∧ Below w.heap.size w w') := by
  obtain ⟨h1, h2, hB⟩ := two_facts w 3 1 0 [119] l 1
  unfold W0 P0 vE Dt.zero
  go_enter Tryz.func43, Tryz.ntmps43
  go_upto_region 1 with (fail)
  change Code.wp _ _ _ _ (two w 3 1 0 [119] l 1)
  generalize two w 3 1 0 [119] l 1 = w1 at *
  have c0 := h1.cell 0 rfl
  have d0 := h2.cell 0 rfl
  go_wp2_with fail
  go_ret
  exact ⟨rfl, hB⟩
theorem eqI0 (w : World) : (binOp .eql 68 (.iface 101 (.agg #[.int .i64 5, .string ⟨#[112]⟩])) (.iface 101 (.agg #[.int .i64 5, .string ⟨#[112]⟩]))).run Tryz.prog w = .ok (.bool true) w := by kernel_rfl
theorem valueP (w : World) : Calls Tryz.prog 50 #[P0] w (fun e w' => e = .returned (.iface 101 (.agg #[.int .i64 5, .string ⟨#[112]⟩])) ∧ Below w.heap.size w w') :=
  (evalueN 1 0 5 [112] Dt.zero none 0 0 none 0 0 none 0 0 w).mono (fun _ _ h => ⟨h.1, h.2.1⟩)
set_option maxRecDepth 100000 in
set_option maxHeartbeats 8000000 in
theorem equalP (w : World) : Calls Tryz.prog 43 #[P0, P0] w (fun e w' => e = .returned (.bool true) ∧ Below w.heap.size w w') := by
  obtain ⟨h1, h2, hB⟩ := two_facts w 1 0 5 [112] none 0
  unfold P0 vE Dt.zero
  go_enter Tryz.func43, Tryz.ntmps43
  go_upto_region 1 with (fail)
  change Code.wp _ _ _ _ (two w 1 0 5 [112] none 0)
  generalize two w 1 0 5 [112] none 0 = w1 at *
  have c0 := h1.cell 0 rfl
  have d0 := h2.cell 0 rfl
  have HK := Lib.hid (show ∀ wx, Below w1.heap.size w1 wx → ((wx.cell? ⟨w.heap.size, 0, none⟩ = some (.int .i64 1) ∧ wx.cell? ⟨w.heap.size, 1, none⟩ = some (.int .i64 0) ∧ wx.cell? ⟨w.heap.size, 2, none⟩ = some (.int .i64 5) ∧ wx.cell? ⟨w.heap.size, 3, none⟩ = some (.string ⟨#[112]⟩) ∧ wx.cell? ⟨w.heap.size, 4, none⟩ = some (.int .i64 0) ∧ wx.cell? ⟨w.heap.size, 5, none⟩ = some (.int .i64 0) ∧ wx.cell? ⟨w.heap.size, 6, none⟩ = some (.int .u64 0) ∧ wx.cell? ⟨w.heap.size, 7, none⟩ = some (.string ⟨#[]⟩) ∧ wx.cell? ⟨w.heap.size, 8, none⟩ = some (.slice none 0 0) ∧ wx.cell? ⟨w.heap.size, 9, none⟩ = some (.slice none 0 0) ∧ wx.cell? ⟨w.heap.size, 10, none⟩ = some (.slice none 0 0)) ∧
    (wx.cell? ⟨w.heap.size + 1, 0, none⟩ = some (.int .i64 1) ∧ wx.cell? ⟨w.heap.size + 1, 1, none⟩ = some (.int .i64 0) ∧ wx.cell? ⟨w.heap.size + 1, 2, none⟩ = some (.int .i64 5) ∧ wx.cell? ⟨w.heap.size + 1, 3, none⟩ = some (.string ⟨#[112]⟩) ∧ wx.cell? ⟨w.heap.size + 1, 4, none⟩ = some (.int .i64 0) ∧ wx.cell? ⟨w.heap.size + 1, 5, none⟩ = some (.int .i64 0) ∧ wx.cell? ⟨w.heap.size + 1, 6, none⟩ = some (.int .u64 0) ∧ wx.cell? ⟨w.heap.size + 1, 7, none⟩ = some (.string ⟨#[]⟩) ∧ wx.cell? ⟨w.heap.size + 1, 8, none⟩ = some (.slice none 0 0) ∧ wx.cell? ⟨w.heap.size + 1, 9, none⟩ = some (.slice none 0 0) ∧ wx.cell? ⟨w.heap.size + 1, 10, none⟩ = some (.slice none 0 0))) from fun wx hx => by
      have a := h1.below hx
      have c := h2.below hx
      exact ⟨⟨a.cell 0 rfl, a.cell 1 rfl, a.cell 2 rfl, a.cell 3 rfl, a.cell 4 rfl, a.cell 5 rfl, a.cell 6 rfl, a.cell 7 rfl, a.cell 8 rfl, a.cell 9 rfl, a.cell 10 rfl⟩, ⟨c.cell 0 rfl, c.cell 1 rfl, c.cell 2 rfl, c.cell 3 rfl, c.cell 4 rfl, c.cell 5 rfl, c.cell 6 rfl, c.cell 7 rfl, c.cell 8 rfl, c.cell 9 rfl, c.cell 10 rfl⟩⟩)
  have HB := Lib.hid hB
  have HC := Lib.hid (fun wx => valueP wx)
  unfold P0 vE Dt.zero at HC
  have hq1 := fun w => eqI0 w
  clear h1 h2 hB
  obtain ⟨p, hp⟩ : ∃ x, x = w.heap.size := ⟨_, rfl⟩
  obtain ⟨q, hq⟩ : ∃ x, x = w.heap.size + 1 := ⟨_, rfl⟩
  go_upto_region 6 with fail
  go_region_held3 (fun wx : World => (wx.cell? ⟨w.heap.size, 0, none⟩ = some (.int .i64 1) ∧ wx.cell? ⟨w.heap.size, 1, none⟩ = some (.int .i64 0) ∧ wx.cell? ⟨w.heap.size, 2, none⟩ = some (.int .i64 5) ∧ wx.cell? ⟨w.heap.size, 3, none⟩ = some (.string ⟨#[112]⟩) ∧ wx.cell? ⟨w.heap.size, 4, none⟩ = some (.int .i64 0) ∧ wx.cell? ⟨w.heap.size, 5, none⟩ = some (.int .i64 0) ∧ wx.cell? ⟨w.heap.size, 6, none⟩ = some (.int .u64 0) ∧ wx.cell? ⟨w.heap.size, 7, none⟩ = some (.string ⟨#[]⟩) ∧ wx.cell? ⟨w.heap.size, 8, none⟩ = some (.slice none 0 0) ∧ wx.cell? ⟨w.heap.size, 9, none⟩ = some (.slice none 0 0) ∧ wx.cell? ⟨w.heap.size, 10, none⟩ = some (.slice none 0 0)) ∧
    (wx.cell? ⟨w.heap.size + 1, 0, none⟩ = some (.int .i64 1) ∧ wx.cell? ⟨w.heap.size + 1, 1, none⟩ = some (.int .i64 0) ∧ wx.cell? ⟨w.heap.size + 1, 2, none⟩ = some (.int .i64 5) ∧ wx.cell? ⟨w.heap.size + 1, 3, none⟩ = some (.string ⟨#[112]⟩) ∧ wx.cell? ⟨w.heap.size + 1, 4, none⟩ = some (.int .i64 0) ∧ wx.cell? ⟨w.heap.size + 1, 5, none⟩ = some (.int .i64 0) ∧ wx.cell? ⟨w.heap.size + 1, 6, none⟩ = some (.int .u64 0) ∧ wx.cell? ⟨w.heap.size + 1, 7, none⟩ = some (.string ⟨#[]⟩) ∧ wx.cell? ⟨w.heap.size + 1, 8, none⟩ = some (.slice none 0 0) ∧ wx.cell? ⟨w.heap.size + 1, 9, none⟩ = some (.slice none 0 0) ∧ wx.cell? ⟨w.heap.size + 1, 10, none⟩ = some (.slice none 0 0)))
    (first | exact HK.out _ (Below.refl _ _) | exact HK.out _ (Below.refl _ _).drew | exact HK.out _ HB2.out | exact HK.out _ HB3.out)
    (first
      | (go_simp; go_at_call 50; (with_reducible refine (HC.out _).mono ?_); rintro e2 w2 ⟨rfl, hB⟩; (first | (have HB3 := Lib.hid (HB2.out.trans (hB.mono HB2.out.size)); clear hB) | (have HB2 := Lib.hid ((Below.refl w1.heap.size w1).drew.trans hB); clear hB))))
  all_goals
    go_wp2_with fail
    go_ret
    exact ⟨rfl, HB.out.trans (HB3.out.mono HB.out.size)⟩
end Go.Proofs.YtbldidiibkcelaaGreatDoor

/-
  Is's inner closure at awake's errors (walks). Not a statement of the seat.
-/
namespace Go.Proofs.YtbldidiibkcelaaGreatDoor
open Go.RowKit

theorem h102 (v : Value) (w : World) : (Instr.typeAssert (.iface 102 v) 68 72 false).run Tryz.prog w = .ok (.iface 102 v) w := by kernel_rfl
theorem h101 (v : Value) (w : World) : (Instr.typeAssert (.iface 101 v) 68 72 false).run Tryz.prog w = .ok (.iface 101 v) w := by kernel_rfl
set_option maxRecDepth 100000 in
set_option maxHeartbeats 8000000 in
theorem is53W {w : World} {tb fb tt : Nat} {u : Bool} {p b off : Nat} (hW : WAt w p b off) (hT : Blk w tb VP0) (hF : Blk w fb [.bool u]) (ht : tb ≠ fb) (way : Value) :
    Calls Tryz.prog 53 #[IW p, way, .pointer (some ⟨tb, 0, none⟩), .pointer (some ⟨fb, 0, none⟩), .pointer (some ⟨tt, 0, none⟩)] w (fun e w' => e = .returned (.bool true) ∧ Kept (N1 fb) w w' ∧ Blk w' fb [.bool false]) := by
  have HK := Lib.hid (show ∀ wx, Kept (N1 fb) w wx → (wx.cell? ⟨tb, 0, none⟩ = some (.int .i64 1) ∧ wx.cell? ⟨tb, 1, none⟩ = some (.int .i64 0) ∧ wx.cell? ⟨tb, 2, none⟩ = some (.int .i64 5) ∧ wx.cell? ⟨tb, 3, none⟩ = some (.string ⟨#[112]⟩) ∧ wx.cell? ⟨tb, 4, none⟩ = some (.int .i64 0) ∧ wx.cell? ⟨tb, 5, none⟩ = some (.int .i64 0) ∧ wx.cell? ⟨tb, 6, none⟩ = some (.int .u64 0) ∧ wx.cell? ⟨tb, 7, none⟩ = some (.string ⟨#[]⟩) ∧ wx.cell? ⟨tb, 8, none⟩ = some (.slice none 0 0) ∧ wx.cell? ⟨tb, 9, none⟩ = some (.slice none 0 0) ∧ wx.cell? ⟨tb, 10, none⟩ = some (.slice none 0 0)) from fun wx hx => by
    have a := hT.keep hx (fun h => ht h)
    exact ⟨a.cell 0 rfl, a.cell 1 rfl, a.cell 2 rfl, a.cell 3 rfl, a.cell 4 rfl, a.cell 5 rfl, a.cell 6 rfl, a.cell 7 rfl, a.cell 8 rfl, a.cell 9 rfl, a.cell 10 rfl⟩)
  have ha := fun v w => h102 v w
  have hb2 := fun v w => ta102_6 v w
  have hm := fun v w => m102m v w
  have HM := Lib.hid (fun (wx : World) (hx : Below w.heap.size w wx) => made150 (hW.below hx))
  have HE := Lib.hid (fun (l : Option Addr) (wx : World) => equalW (l := l) wx)
  unfold W0 P0 vE Dt.zero at HE
  unfold W0 vE Dt.zero at HM
  clear hW
  have HF := Lib.hid hF
  have HT := Lib.hid (And.intro hT ht)
  clear hT hF ht
  unfold IW
  go_enter Tryz.func53, Tryz.ntmps53
  go_upto_region 1 with fail
  go_region_held3 (fun wx : World => wx.cell? ⟨tb, 0, none⟩ = some (.int .i64 1) ∧ wx.cell? ⟨tb, 1, none⟩ = some (.int .i64 0) ∧ wx.cell? ⟨tb, 2, none⟩ = some (.int .i64 5) ∧ wx.cell? ⟨tb, 3, none⟩ = some (.string ⟨#[112]⟩) ∧ wx.cell? ⟨tb, 4, none⟩ = some (.int .i64 0) ∧ wx.cell? ⟨tb, 5, none⟩ = some (.int .i64 0) ∧ wx.cell? ⟨tb, 6, none⟩ = some (.int .u64 0) ∧ wx.cell? ⟨tb, 7, none⟩ = some (.string ⟨#[]⟩) ∧ wx.cell? ⟨tb, 8, none⟩ = some (.slice none 0 0) ∧ wx.cell? ⟨tb, 9, none⟩ = some (.slice none 0 0) ∧ wx.cell? ⟨tb, 10, none⟩ = some (.slice none 0 0))
    (first | exact HK.out _ (Kept.refl _ _) | exact HK.out _ (Kept.refl _ _).drew | exact HK.out _ (Kept.of' HB2.out) | exact HK.out _ (Kept.of' HB3.out) | exact HK.out _ ((Kept.of' HB3.out).put (p := ⟨fb, 0, none⟩) _ (fun _ => rfl)))
    (first
      | (go_simp; go_at_call 150; (with_reducible refine (HM.out _ (Below.refl _ _).drew).mono ?_); rintro e2 w2 ⟨rfl, hB⟩; have HB2 := Lib.hid ((Below.refl w.heap.size w).drew.trans hB); clear hB)
      | (go_simp; go_at_call 43; (with_reducible refine (HE.out _ _).mono ?_); rintro e3 w3 ⟨rfl, hB⟩; have HB3 := Lib.hid (HB2.out.trans (hB.mono HB2.out.size)); have y0 := (HF.out.below HB3.out).cell 0 rfl; have y1 := (HF.out.below HB3.out).free 0 (by simp); clear hB))
  all_goals
    have hf := (HF.out.below HB3.out).set (j := 0) (.bool false)
    have HF2 := Lib.hid hf
    have z0 := hf.cell 0 rfl
    clear hf
    go_wp2_with fail
    go_ret
    exact ⟨rfl, (Kept.of' HB3.out).put (p := ⟨fb, 0, none⟩) _ (fun _ => rfl), HF2.out⟩
set_option maxRecDepth 100000 in
set_option maxHeartbeats 8000000 in
theorem is53P {w : World} {tb fb tt : Nat} {u : Bool} (hT : Blk w tb VP0) (hF : Blk w fb [.bool u]) (ht : tb ≠ fb) (way : Value) :
    Calls Tryz.prog 53 #[I0, way, .pointer (some ⟨tb, 0, none⟩), .pointer (some ⟨fb, 0, none⟩), .pointer (some ⟨tt, 0, none⟩)] w (fun e w' => e = .returned (.bool false) ∧ Kept (N1 fb) w w' ∧ Blk w' fb [.bool true]) := by
  have HK := Lib.hid (show ∀ wx, Kept (N1 fb) w wx → (wx.cell? ⟨tb, 0, none⟩ = some (.int .i64 1) ∧ wx.cell? ⟨tb, 1, none⟩ = some (.int .i64 0) ∧ wx.cell? ⟨tb, 2, none⟩ = some (.int .i64 5) ∧ wx.cell? ⟨tb, 3, none⟩ = some (.string ⟨#[112]⟩) ∧ wx.cell? ⟨tb, 4, none⟩ = some (.int .i64 0) ∧ wx.cell? ⟨tb, 5, none⟩ = some (.int .i64 0) ∧ wx.cell? ⟨tb, 6, none⟩ = some (.int .u64 0) ∧ wx.cell? ⟨tb, 7, none⟩ = some (.string ⟨#[]⟩) ∧ wx.cell? ⟨tb, 8, none⟩ = some (.slice none 0 0) ∧ wx.cell? ⟨tb, 9, none⟩ = some (.slice none 0 0) ∧ wx.cell? ⟨tb, 10, none⟩ = some (.slice none 0 0)) from fun wx hx => by
    have a := hT.keep hx (fun h => ht h)
    exact ⟨a.cell 0 rfl, a.cell 1 rfl, a.cell 2 rfl, a.cell 3 rfl, a.cell 4 rfl, a.cell 5 rfl, a.cell 6 rfl, a.cell 7 rfl, a.cell 8 rfl, a.cell 9 rfl, a.cell 10 rfl⟩)
  have ha := fun v w => h101 v w
  have hb2 := fun v w => ta101_6 v w
  have hm := fun v w => m101m v w
  have HM := Lib.hid (fun (wx : World) (_hx : Below w.heap.size w wx) => made147 wx)
  have HE := Lib.hid (fun (wx : World) => equalP wx)
  unfold P0 vE Dt.zero at HE HM
  have HF := Lib.hid hF
  have HT := Lib.hid (And.intro hT ht)
  clear hT hF ht
  unfold I0
  go_enter Tryz.func53, Tryz.ntmps53
  go_upto_region 1 with fail
  go_region_held3 (fun wx : World => wx.cell? ⟨tb, 0, none⟩ = some (.int .i64 1) ∧ wx.cell? ⟨tb, 1, none⟩ = some (.int .i64 0) ∧ wx.cell? ⟨tb, 2, none⟩ = some (.int .i64 5) ∧ wx.cell? ⟨tb, 3, none⟩ = some (.string ⟨#[112]⟩) ∧ wx.cell? ⟨tb, 4, none⟩ = some (.int .i64 0) ∧ wx.cell? ⟨tb, 5, none⟩ = some (.int .i64 0) ∧ wx.cell? ⟨tb, 6, none⟩ = some (.int .u64 0) ∧ wx.cell? ⟨tb, 7, none⟩ = some (.string ⟨#[]⟩) ∧ wx.cell? ⟨tb, 8, none⟩ = some (.slice none 0 0) ∧ wx.cell? ⟨tb, 9, none⟩ = some (.slice none 0 0) ∧ wx.cell? ⟨tb, 10, none⟩ = some (.slice none 0 0))
    (first | exact HK.out _ (Kept.refl _ _) | exact HK.out _ (Kept.refl _ _).drew | exact HK.out _ (Kept.of' HB2.out) | exact HK.out _ (Kept.of' HB3.out) | exact HK.out _ ((Kept.of' HB3.out).put (p := ⟨fb, 0, none⟩) _ (fun _ => rfl)))
    (first
      | (go_simp; go_at_call 147; (with_reducible refine (HM.out _ (Below.refl _ _).drew).mono ?_); rintro e2 w2 ⟨rfl, hB⟩; have HB2 := Lib.hid ((Below.refl w.heap.size w).drew.trans hB); clear hB)
      | (go_simp; go_at_call 43; (with_reducible refine (HE.out _).mono ?_); rintro e3 w3 ⟨rfl, hB⟩; have HB3 := Lib.hid (HB2.out.trans (hB.mono HB2.out.size)); have y0 := (HF.out.below HB3.out).cell 0 rfl; have y1 := (HF.out.below HB3.out).free 0 (by simp); clear hB))
  all_goals
    have hf := (HF.out.below HB3.out).set (j := 0) (.bool true)
    have HF2 := Lib.hid hf
    have z0 := hf.cell 0 rfl
    clear hf
    go_wp2_with fail
    go_ret
    exact ⟨rfl, (Kept.of' HB3.out).put (p := ⟨fb, 0, none⟩) _ (fun _ => rfl), HF2.out⟩
end Go.Proofs.YtbldidiibkcelaaGreatDoor

