/-
  Result, the code's and the document's (walks). Not a statement of the seat.
-/
import Derived.Test.YtbldidiibkcelaaGreatDoorTEAs6
namespace Go.Proofs.YtbldidiibkcelaaGreatDoor
open Go.RowKit

/-- what a handler's error is told as -/
def resM (e : Et) : Int × Int := if e.k = 0 then (0, 0) else if e.k = 7 then (101, 0) else
  if (match fnd1 0 e with | some x => !(x.c == 2) | none => false : Bool) = true then (170, 0) else match fnd1 2 e with
    | some y => (100, y.c)
    | none => (100, -1)
theorem resM0 {e : Et} (h : e.k = 0) : resM e = (0, 0) := by unfold resM; rw [if_pos h]
theorem resM7 {e : Et} (h : e.k = 7) : resM e = (101, 0) := by unfold resM; rw [if_neg (by omega), if_pos h]
theorem resMt {e x : Et} (h0 : e.k ≠ 0) (h7 : e.k ≠ 7) (h : fnd1 0 e = some x) (hc : (x.c == 2) = false) : resM e = (170, 0) := by unfold resM; rw [if_neg h0, if_neg h7, h]; simp [hc]
theorem resMc {e y : Et} (h0 : e.k ≠ 0) (h7 : e.k ≠ 7) (h : ∀ x, fnd1 0 e = some x → (x.c == 2) = true) (h2 : fnd1 2 e = some y) : resM e = (100, y.c) := by
  unfold resM
  rw [if_neg h0, if_neg h7, h2]
  cases hx : fnd1 0 e with
  | none => rfl
  | some x => simp [h x hx]
theorem resMn {e : Et} (h0 : e.k ≠ 0) (h7 : e.k ≠ 7) (h : ∀ x, fnd1 0 e = some x → (x.c == 2) = true) (h2 : fnd1 2 e = none) : resM e = (100, -1) := by
  unfold resM
  rw [if_neg h0, if_neg h7, h2]
  cases hx : fnd1 0 e with
  | none => rfl
  | some x => simp [h x hx]
theorem fa_fndL (m : Int) : ∀ f : Eo, faL (hitF m) false f = fndL m f
  | .nil => rfl
  | .cons k i c t b cs ks rest => by
    rw [faL, fndL, fa_fndL m ks, fa_fndL m rest]
    by_cases h0 : k = 0
    · rw [if_pos h0, if_pos h0] <;> rfl
    · rw [if_neg h0, if_neg h0, if_neg (show ¬ (k = 9 ∧ false = true) from fun h => Bool.false_ne_true h.2)] <;> rfl
theorem fa_fnd (m : Int) (e : Et) : fa1 (hitF m) false e = fnd1 m e := by
  unfold fa1 fnd1
  rw [fa_fndL, if_neg (show ¬ (e.k = 9 ∧ false = true) from fun h => Bool.false_ne_true h.2)] <;> rfl
def vR (a c : Int) : Value := .agg #[.int .i64 a, .int .i64 c, .int .i64 0, .int .i64 0, .bool false, .int .i64 0, .int .i64 0, .int .u64 0, .string ⟨#[]⟩, .slice none 0 0]
def Z10 : List Value := [.int .i64 0, .int .i64 0, .int .i64 0, .int .i64 0, .bool false, .int .i64 0, .int .i64 0, .int .u64 0, .string ⟨#[]⟩, .slice none 0 0]
def zres (w : World) : World := w.alloc (.cells #[.int .i64 0, .int .i64 0, .int .i64 0, .int .i64 0, .bool false, .int .i64 0, .int .i64 0, .int .u64 0, .string ⟨#[]⟩, .slice none 0 0] 53)
theorem zres_blk (w : World) : Blk (zres w) w.heap.size Z10 := Blk.new w _ 53
theorem zres_below (w : World) : Below w.heap.size w (zres w) := (Below.refl _ _).alloc (Nat.le_refl _) _
theorem zres_size (w : World) : (zres w).heap.size = w.heap.size + 1 := by simp [zres]
def st10 (w : World) (b : Nat) (v0 v1 v2 v3 v4 v5 v6 v7 v8 v9 : Value) : World := ((((((((((w.setCell ⟨b, 0, none⟩ v0).setCell ⟨b, 1, none⟩ v1).setCell ⟨b, 2, none⟩ v2).setCell ⟨b, 3, none⟩ v3).setCell ⟨b, 4, none⟩ v4).setCell ⟨b, 5, none⟩ v5).setCell ⟨b, 6, none⟩ v6).setCell ⟨b, 7, none⟩ v7).setCell ⟨b, 8, none⟩ v8).setCell ⟨b, 9, none⟩ v9)
theorem st10_blk {w : World} {b : Nat} {u0 u1 u2 u3 u4 u5 u6 u7 u8 u9 : Value} (h : Blk w b [u0, u1, u2, u3, u4, u5, u6, u7, u8, u9]) (v0 v1 v2 v3 v4 v5 v6 v7 v8 v9 : Value) : Blk (st10 w b v0 v1 v2 v3 v4 v5 v6 v7 v8 v9) b [v0, v1, v2, v3, v4, v5, v6, v7, v8, v9] := by
  have := ((((((((((h.set (j := 0) v0).set (j := 1) v1).set (j := 2) v2).set (j := 3) v3).set (j := 4) v4).set (j := 5) v5).set (j := 6) v6).set (j := 7) v7).set (j := 8) v8).set (j := 9) v9)
  simpa [st10] using this
theorem st10_kept {w : World} {b : Nat} (v0 v1 v2 v3 v4 v5 v6 v7 v8 v9 : Value) : Kept (N1 b) w (st10 w b v0 v1 v2 v3 v4 v5 v6 v7 v8 v9) := (((((((((((Kept.refl (N1 b) w).put (p := ⟨b, 0, none⟩) v0 (fun _ => rfl)).put (p := ⟨b, 1, none⟩) v1 (fun _ => rfl)).put (p := ⟨b, 2, none⟩) v2 (fun _ => rfl)).put (p := ⟨b, 3, none⟩) v3 (fun _ => rfl)).put (p := ⟨b, 4, none⟩) v4 (fun _ => rfl)).put (p := ⟨b, 5, none⟩) v5 (fun _ => rfl)).put (p := ⟨b, 6, none⟩) v6 (fun _ => rfl)).put (p := ⟨b, 7, none⟩) v7 (fun _ => rfl)).put (p := ⟨b, 8, none⟩) v8 (fun _ => rfl)).put (p := ⟨b, 9, none⟩) v9 (fun _ => rfl))
def RSP (a c : Int) (w : World) (r : Ending) (w' : World) : Prop := r = .returned (vR a c) ∧ Below w.heap.size w w'
theorem rs_fin {fn : Func} {tmps : Array Value} {w w1 : World} {a c : Int} {b : Nat} (hr : fn.results = #[ResultVar.cell 2 53]) (ht : tmps.getD 2 undef = .pointer (some ⟨b, 0, none⟩)) (hb : w.heap.size ≤ b) (hB : Below w.heap.size w w1) (h : Blk w1 b Z10) :
    bodyPost Tryz.prog fn (RSP a c w) Exit.ret { tmps := tmps, defers := [] } (st10 w1 b (.int .i64 a) (.int .i64 c) (.int .i64 0) (.int .i64 0) (.bool false) (.int .i64 0) (.int .i64 0) (.int .u64 0) (.string ⟨#[]⟩) (.slice none 0 0)) := by
  have h' := st10_blk h (.int .i64 a) (.int .i64 c) (.int .i64 0) (.int .i64 0) (.bool false) (.int .i64 0) (.int .i64 0) (.int .u64 0) (.string ⟨#[]⟩) (.slice none 0 0)
  have ht' : tmps[2]?.getD undef = .pointer (some ⟨b, 0, none⟩) := by simpa using ht
  have c0 := h'.cell 0 rfl; have c1 := h'.cell 1 rfl; have c2 := h'.cell 2 rfl; have c3 := h'.cell 3 rfl; have c4 := h'.cell 4 rfl; have c5 := h'.cell 5 rfl; have c6 := h'.cell 6 rfl; have c7 := h'.cell 7 rfl; have c8 := h'.cell 8 rfl; have c9 := h'.cell 9 rfl
  refine bodyPost_ret (v := vR a c) ?_ rfl ⟨rfl, ?_⟩
  · unfold vR
    simp [results, hr, go_sem, ht', c0, c1, c2, c3, c4, c5, c6, c7, c8, c9]
  · exact ((Kept.of' (N := N1 b) hB).trans (st10_kept _ _ _ _ _ _ _ _ _ _)).below (Nat.le_refl _) (fun x hx e => by unfold N1 at e; omega)
def rw2 (w : World) (k i c : Int) (t : Bs) (b : Dt) (bl : Option Addr) (bn bc : Nat) (cl : Option Addr) (cn cc : Nat) (l : Option Addr) (n cap : Nat) : World := zres (ebox w k i c t b bl bn bc cl cn cc l n cap)
theorem rw2_facts (w : World) (k i c : Int) (t : Bs) (b : Dt) (bl : Option Addr) (bn bc : Nat) (cl : Option Addr) (cn cc : Nat) (l : Option Addr) (n cap : Nat) :
    (Blk (rw2 w k i c t b bl bn bc cl cn cc l n cap) w.heap.size (V11 k i c t b bl bn bc cl cn cc l n cap) ∧ Blk (rw2 w k i c t b bl bn bc cl cn cc l n cap) (w.heap.size + 1) Z10) ∧ Below w.heap.size w (rw2 w k i c t b bl bn bc cl cn cc l n cap) ∧ (rw2 w k i c t b bl bn bc cl cn cc l n cap).heap.size = w.heap.size + 2 := by
  have e1 := ebox_size w k i c t b bl bn bc cl cn cc l n cap
  have h1 := ebox_blk w k i c t b bl bn bc cl cn cc l n cap
  have hb := ebox_below w k i c t b bl bn bc cl cn cc l n cap
  unfold rw2
  generalize ebox w k i c t b bl bn bc cl cn cc l n cap = w1 at *
  have h2 := zres_blk w1
  have hb2 := zres_below w1
  have e2 := zres_size w1
  rw [e1] at h2
  exact ⟨⟨h1.below hb2, h2⟩, hb.trans (hb2.mono hb.size), by omega⟩
set_option maxRecDepth 100000 in
theorem timeout196 (c : Int) (t : Bs) (hc : 1 ≤ c ∧ c ≤ 3) (w : World) : Calls Tryz.prog 196 #[.agg #[.int .i64 c, .string ⟨t.toArray⟩]] w (fun e w' => e = .returned (.bool (!(c == 2))) ∧ Below w.heap.size w w') := by
  have hA := Blk.new w #[.int .i64 c, .string ⟨t.toArray⟩] 110
  have hB : Below w.heap.size w (w.alloc (.cells #[.int .i64 c, .string ⟨t.toArray⟩] 110)) := (Below.refl _ _).alloc (Nat.le_refl _) _
  have HB := Lib.hid hB
  clear hB
  have hcc : c = 1 ∨ c = 2 ∨ c = 3 := by omega
  rcases hcc with rfl | rfl | rfl
  all_goals
    go_enter Tryz.func196, Tryz.ntmps196
    go_upto_region 1 with (fail)
    generalize w.alloc _ = w1 at *
    have c0 := hA.cell 0 rfl
    have hb1 : (bits BinOp.and IntKind.i64 1 1 == 1) = true := by decide +kernel
    have hb2 : (bits BinOp.and IntKind.i64 2 1 == 1) = false := by decide +kernel
    have hb3 : (bits BinOp.and IntKind.i64 3 1 == 1) = true := by decide +kernel
    go_wp2_with fail
    go_ret
    exact ⟨rfl, HB.out⟩
theorem ta89k (y : Value) (k : Int) (h1 : 1 ≤ k) (h2 : k ≤ 10) (n2 : k ≠ 2) (n7 : k ≠ 7) (w : World) : (Instr.typeAssert (.iface (dyn k) y) 68 89 true).run Tryz.prog w = .ok (.tuple #[.pointer none, .bool false]) w := by
  rcases kinds_cases k with rfl | rfl | rfl | rfl | rfl | rfl | rfl | rfl | rfl | rfl | ⟨z1, z2, z3, z4, z5, z6, z7, z8, z9, z10⟩
  · show (Instr.typeAssert (.iface 101 y) 68 89 true).run Tryz.prog w = _
    kernel_rfl
  · exact absurd rfl n2
  · show (Instr.typeAssert (.iface 102 y) 68 89 true).run Tryz.prog w = _
    kernel_rfl
  · show (Instr.typeAssert (.iface 103 y) 68 89 true).run Tryz.prog w = _
    kernel_rfl
  · show (Instr.typeAssert (.iface 106 y) 68 89 true).run Tryz.prog w = _
    kernel_rfl
  · show (Instr.typeAssert (.iface 107 y) 68 89 true).run Tryz.prog w = _
    kernel_rfl
  · exact absurd rfl n7
  · show (Instr.typeAssert (.iface 108 y) 68 89 true).run Tryz.prog w = _
    kernel_rfl
  · show (Instr.typeAssert (.iface 109 y) 68 89 true).run Tryz.prog w = _
    kernel_rfl
  · show (Instr.typeAssert (.iface 110 y) 68 89 true).run Tryz.prog w = _
    kernel_rfl
  · omega
theorem ta89p (a : Option Addr) (w : World) : (Instr.typeAssert (.iface 89 (.pointer a)) 68 89 true).run Tryz.prog w = .ok (.tuple #[.pointer a, .bool true]) w := by kernel_rfl
theorem m110t (v : Value) (w : World) : (method 389 110 v "Timeout").run Tryz.prog w = .ok (196, v) w := by kernel_rfl
set_option maxRecDepth 100000 in
set_option maxHeartbeats 16000000 in
theorem res31 {S : Nat → Prop} {k i c : Int} {t : Bs} {b : Dt} {cs : List Int} {kids : Eo} {bl : Option Addr} {bn bc : Nat} {cl : Option Addr} {cn cc : Nat} {l : Option Addr} {n cap : Nat} {w : World} (hE : ErAt S w ⟨k, i, c, t, b, cs, kids⟩ bl bn bc cl cn cc l n cap) (hS : ∀ x, S x → x < w.heap.size) (hr : rightE ⟨k, i, c, t, b, cs, kids⟩ = true) (hok : okS ⟨k, i, c, t, b, cs, kids⟩) :
    Calls Tryz.prog 31 #[vE k i c t b bl bn bc cl cn cc l n cap] w (RSP (resM ⟨k, i, c, t, b, cs, kids⟩).1 (resM ⟨k, i, c, t, b, cs, kids⟩).2 w) := by
  obtain ⟨⟨hP, hZ⟩, hB, hsz⟩ := rw2_facts w k i c t b bl bn bc cl cn cc l n cap
  have HAF := Lib.hid (fun (m : Int) (wx : World) (hx : Below w.heap.size w wx) => rasfaceG m kids k i c t b cs bl bn bc cl cn cc l n cap S wx (hE.same (w' := wx) (fun x _ hl => hx.block x hl) (fun x hx2 _ => hx2)) (fun x hx2 => Nat.lt_of_lt_of_le (hS x hx2) hx.size) hr hok)
  have HR0 := Lib.hid (fun (h0 : k = 0) => resM0 (e := ⟨k, i, c, t, b, cs, kids⟩) h0)
  have HR7 := Lib.hid (fun (h0 : k = 7) => resM7 (e := ⟨k, i, c, t, b, cs, kids⟩) h0)
  have HRT := Lib.hid (fun (h0 : k ≠ 0) (h7 : k ≠ 7) (x : Et) (h : fnd1 0 ⟨k, i, c, t, b, cs, kids⟩ = some x) (hc : (x.c == 2) = false) => resMt h0 h7 h hc)
  have HRC := Lib.hid (fun (h0 : k ≠ 0) (h7 : k ≠ 7) (h : ∀ x, fnd1 0 ⟨k, i, c, t, b, cs, kids⟩ = some x → (x.c == 2) = true) (y : Et) (h2 : fnd1 2 ⟨k, i, c, t, b, cs, kids⟩ = some y) => resMc h0 h7 h h2)
  have HRN := Lib.hid (fun (h0 : k ≠ 0) (h7 : k ≠ 7) (h : ∀ x, fnd1 0 ⟨k, i, c, t, b, cs, kids⟩ = some x → (x.c == 2) = true) (h2 : fnd1 2 ⟨k, i, c, t, b, cs, kids⟩ = none) => resMn h0 h7 h h2)
  have HF0 := Lib.hid (HAF.out 0)
  have HF2 := Lib.hid (HAF.out 2)
  generalize resM ⟨k, i, c, t, b, cs, kids⟩ = rr at *
  generalize fnd1 0 ⟨k, i, c, t, b, cs, kids⟩ = o0 at *
  generalize fnd1 2 ⟨k, i, c, t, b, cs, kids⟩ = o2 at *
  clear hE hS hr hok HAF
  unfold vE at HF0 HF2 ⊢
  go_enter Tryz.func31, Tryz.ntmps31
  go_upto_region 1 with (fail)
  change Code.wp _ _ _ _ (rw2 w k i c t b bl bn bc cl cn cc l n cap)
  generalize rw2 w k i c t b bl bn bc cl cn cc l n cap = w1 at *
  obtain ⟨z, hz⟩ : ∃ z, z = w.heap.size + 1 := ⟨_, rfl⟩
  obtain ⟨p, hp⟩ : ∃ q, q = w.heap.size := ⟨_, rfl⟩
  rw [← hp] at hP
  rw [← hz] at hZ
  rw [← hz, ← hp]
  have HB := Lib.hid hB
  have HZ := Lib.hid hZ
  have HP := Lib.hid hP
  have HLT := Lib.hid (show w.heap.size ≤ z by omega)
  have x0 := hP.cell 0 rfl; have x1 := hP.cell 1 rfl; have x2 := hP.cell 2 rfl; have x3 := hP.cell 3 rfl; have x4 := hP.cell 4 rfl; have x5 := hP.cell 5 rfl; have x6 := hP.cell 6 rfl; have x7 := hP.cell 7 rfl; have x8 := hP.cell 8 rfl; have x9 := hP.cell 9 rfl; have x10 := hP.cell 10 rfl
  clear hP hZ hB hsz hp hz
  by_cases h0 : k = 0
  · have HRR := Lib.hid (HR0.out h0)
    subst h0
    have z0 := HZ.out.cell 0 rfl; have f0 := HZ.out.free 0 (by simp [Z10]); have z1 := HZ.out.cell 1 rfl; have f1 := HZ.out.free 1 (by simp [Z10]); have z2 := HZ.out.cell 2 rfl; have f2 := HZ.out.free 2 (by simp [Z10]); have z3 := HZ.out.cell 3 rfl; have f3 := HZ.out.free 3 (by simp [Z10]); have z4 := HZ.out.cell 4 rfl; have f4 := HZ.out.free 4 (by simp [Z10]); have z5 := HZ.out.cell 5 rfl; have f5 := HZ.out.free 5 (by simp [Z10]); have z6 := HZ.out.cell 6 rfl; have f6 := HZ.out.free 6 (by simp [Z10]); have z7 := HZ.out.cell 7 rfl; have f7 := HZ.out.free 7 (by simp [Z10]); have z8 := HZ.out.cell 8 rfl; have f8 := HZ.out.free 8 (by simp [Z10]); have z9 := HZ.out.cell 9 rfl; have f9 := HZ.out.free 9 (by simp [Z10])
    go_wp2_with fail
    rw [HRR.out]
    exact rs_fin Tryz.results31 rfl HLT.out HB.out HZ.out
  by_cases h7 : k = 7
  · have HRR := Lib.hid (HR7.out h7)
    subst h7
    have z0 := HZ.out.cell 0 rfl; have f0 := HZ.out.free 0 (by simp [Z10]); have z1 := HZ.out.cell 1 rfl; have f1 := HZ.out.free 1 (by simp [Z10]); have z2 := HZ.out.cell 2 rfl; have f2 := HZ.out.free 2 (by simp [Z10]); have z3 := HZ.out.cell 3 rfl; have f3 := HZ.out.free 3 (by simp [Z10]); have z4 := HZ.out.cell 4 rfl; have f4 := HZ.out.free 4 (by simp [Z10]); have z5 := HZ.out.cell 5 rfl; have f5 := HZ.out.free 5 (by simp [Z10]); have z6 := HZ.out.cell 6 rfl; have f6 := HZ.out.free 6 (by simp [Z10]); have z7 := HZ.out.cell 7 rfl; have f7 := HZ.out.free 7 (by simp [Z10]); have z8 := HZ.out.cell 8 rfl; have f8 := HZ.out.free 8 (by simp [Z10]); have z9 := HZ.out.cell 9 rfl; have f9 := HZ.out.free 9 (by simp [Z10])
    go_wp2_with fail
    rw [HRR.out]
    exact rs_fin Tryz.results31 rfl HLT.out HB.out HZ.out
  have hb0 : (k == 0) = false := by simp [h0]
  have hb7 : (k == 7) = false := by simp [h7]
  have HK := Lib.hid (And.intro h0 h7)
  clear h0 h7
  have HC0 := Lib.hid (HF0.out w1 HB.out)
  obtain ⟨fb0, hf0⟩ : ∃ f, f = o0.isSome := ⟨_, rfl⟩
  obtain ⟨x, hx⟩ : ∃ x, x = o0.getD Et.zero := ⟨_, rfl⟩
  rw [← hf0, ← hx] at HC0
  have HX := Lib.hid (show (fb0 = true → o0 = some x) ∧ (fb0 = false → o0 = none) from by
    cases o0 with
    | none => exact ⟨fun h => (by rw [hf0] at h; cases h), fun _ => rfl⟩
    | some y => exact ⟨fun _ => (by rw [hx]; rfl), fun h => (by rw [hf0] at h; cases h)⟩)
  clear hf0 hx
  obtain ⟨xk, xi, xc, xt, xB, xcs, xL⟩ := x
  dsimp only at HC0
  go_upto_region 6 with (go_at_call 36; (with_reducible refine HC0.out.mono ?_); intro r3 w3 h3; obtain ⟨b1, b2, b3, c1, c2, c3, l1, l2, l3, vs, rfl, _, _, _, hB3⟩ := CLT.ahead h3; unfold vE; have HB3 := Lib.hid (bel_tr HB.out hB3); have HB13 := Lib.hid hB3; clear h3 hB3)
  change Code.wp _ _ _ _ (ebox w3 xk xi xc xt xB b1 b2 b3 c1 c2 c3 l1 l2 l3)
  have hA4 := ebox_blk w3 xk xi xc xt xB b1 b2 b3 c1 c2 c3 l1 l2 l3
  have hB4 := ebox_below w3 xk xi xc xt xB b1 b2 b3 c1 c2 c3 l1 l2 l3
  generalize ebox w3 xk xi xc xt xB b1 b2 b3 c1 c2 c3 l1 l2 l3 = w4 at *
  obtain ⟨a4, ha4⟩ : ∃ x, x = w3.heap.size := ⟨_, rfl⟩
  have HB4 := Lib.hid (bel_tr HB3.out hB4)
  have HB14 := Lib.hid (bel_tr HB13.out hB4)
  rw [← ha4] at hA4
  rw [← ha4]
  have HA4 := Lib.hid hA4
  have y2 := hA4.cell 2 rfl
  have hP4 := HP.out.below HB14.out
  have hZ4 := HZ.out.below HB14.out
  have HP4 := Lib.hid hP4
  have HZ4 := Lib.hid hZ4
  clear x0 x1 x2 x3 x4 x5 x6 x7 x8 x9 x10
  have x0 := hP4.cell 0 rfl; have x1 := hP4.cell 1 rfl; have x2 := hP4.cell 2 rfl; have x3 := hP4.cell 3 rfl; have x4 := hP4.cell 4 rfl; have x5 := hP4.cell 5 rfl; have x6 := hP4.cell 6 rfl; have x7 := hP4.cell 7 rfl; have x8 := hP4.cell 8 rfl; have x9 := hP4.cell 9 rfl; have x10 := hP4.cell 10 rfl
  clear hA4 hB4 ha4 hP4 hZ4
  have hways : (fb0 = true ∧ (xc == 2) = false) ∨ (fb0 = true ∧ (xc == 2) = true) ∨ fb0 = false := by
    cases fb0 <;> cases (xc == 2) <;> simp
  rcases hways with ⟨rfl, hc2⟩ | hrest
  · have HRR := Lib.hid (HRT.out HK.out.1 HK.out.2 _ (HX.out.1 rfl) hc2)
    have z0 := HZ4.out.cell 0 rfl; have f0 := HZ4.out.free 0 (by simp [Z10]); have z1 := HZ4.out.cell 1 rfl; have f1 := HZ4.out.free 1 (by simp [Z10]); have z2 := HZ4.out.cell 2 rfl; have f2 := HZ4.out.free 2 (by simp [Z10]); have z3 := HZ4.out.cell 3 rfl; have f3 := HZ4.out.free 3 (by simp [Z10]); have z4 := HZ4.out.cell 4 rfl; have f4 := HZ4.out.free 4 (by simp [Z10]); have z5 := HZ4.out.cell 5 rfl; have f5 := HZ4.out.free 5 (by simp [Z10]); have z6 := HZ4.out.cell 6 rfl; have f6 := HZ4.out.free 6 (by simp [Z10]); have z7 := HZ4.out.cell 7 rfl; have f7 := HZ4.out.free 7 (by simp [Z10]); have z8 := HZ4.out.cell 8 rfl; have f8 := HZ4.out.free 8 (by simp [Z10]); have z9 := HZ4.out.cell 9 rfl; have f9 := HZ4.out.free 9 (by simp [Z10])
    go_wp2_with fail
    rw [HRR.out]
    exact rs_fin Tryz.results31 rfl HLT.out HB4.out HZ4.out
  have HALL := Lib.hid (show ∀ y, o0 = some y → (y.c == 2) = true from fun y hy => by
    rcases hrest with ⟨rfl, h⟩ | rfl
    · rw [HX.out.1 rfl] at hy; cases hy; exact h
    · rw [HX.out.2 rfl] at hy; cases hy)
  have HC2 := Lib.hid (HF2.out w4 HB4.out)
  obtain ⟨gb, hgb⟩ : ∃ f, f = o2.isSome := ⟨_, rfl⟩
  obtain ⟨u, hu⟩ : ∃ x, x = o2.getD Et.zero := ⟨_, rfl⟩
  rw [← hgb, ← hu] at HC2
  have HU := Lib.hid (show (gb = true → o2 = some u) ∧ (gb = false → o2 = none) from by
    cases o2 with
    | none => exact ⟨fun h => (by rw [hgb] at h; cases h), fun _ => rfl⟩
    | some y => exact ⟨fun _ => (by rw [hu]; rfl), fun h => (by rw [hgb] at h; cases h)⟩)
  clear hgb hu
  obtain ⟨uk, ui, uc, ut, uB, ucs, uL⟩ := u
  dsimp only at HC2
  rcases hrest with ⟨rfl, hc2⟩ | rfl
  all_goals
    go_upto_region 9 with (go_at_call 36; (with_reducible refine HC2.out.mono ?_); intro r5 w5 h5; obtain ⟨d1, d2, d3, e1, e2, e3, g1, g2, g3, us, rfl, _, _, _, hB5⟩ := CLT.ahead h5; unfold vE; have HB5 := Lib.hid (bel_tr HB4.out hB5); have HB45 := Lib.hid hB5; clear h5 hB5)
    change Code.wp _ _ _ _ (ebox w5 uk ui uc ut uB d1 d2 d3 e1 e2 e3 g1 g2 g3)
    have hA6 := ebox_blk w5 uk ui uc ut uB d1 d2 d3 e1 e2 e3 g1 g2 g3
    have hB6 := ebox_below w5 uk ui uc ut uB d1 d2 d3 e1 e2 e3 g1 g2 g3
    generalize ebox w5 uk ui uc ut uB d1 d2 d3 e1 e2 e3 g1 g2 g3 = w6 at *
    obtain ⟨a6, ha6⟩ : ∃ x, x = w5.heap.size := ⟨_, rfl⟩
    have HB6 := Lib.hid (bel_tr HB5.out hB6)
    have HZ6 := Lib.hid (HZ4.out.below (bel_tr HB45.out hB6))
    rw [← ha6] at hA6
    rw [← ha6]
    have q2 := hA6.cell 2 rfl
    clear hA6 hB6 ha6 x0 x1 x2 x3 x4 x5 x6 x7 x8 x9 x10 y2
    have z0 := HZ6.out.cell 0 rfl; have f0 := HZ6.out.free 0 (by simp [Z10]); have z1 := HZ6.out.cell 1 rfl; have f1 := HZ6.out.free 1 (by simp [Z10]); have z2 := HZ6.out.cell 2 rfl; have f2 := HZ6.out.free 2 (by simp [Z10]); have z3 := HZ6.out.cell 3 rfl; have f3 := HZ6.out.free 3 (by simp [Z10]); have z4 := HZ6.out.cell 4 rfl; have f4 := HZ6.out.free 4 (by simp [Z10]); have z5 := HZ6.out.cell 5 rfl; have f5 := HZ6.out.free 5 (by simp [Z10]); have z6 := HZ6.out.cell 6 rfl; have f6 := HZ6.out.free 6 (by simp [Z10]); have z7 := HZ6.out.cell 7 rfl; have f7 := HZ6.out.free 7 (by simp [Z10]); have z8 := HZ6.out.cell 8 rfl; have f8 := HZ6.out.free 8 (by simp [Z10]); have z9 := HZ6.out.cell 9 rfl; have f9 := HZ6.out.free 9 (by simp [Z10])
    cases gb
    · have HRR := Lib.hid (HRN.out HK.out.1 HK.out.2 HALL.out (HU.out.2 rfl))
      go_wp2_with fail
      rw [HRR.out]
      exact rs_fin Tryz.results31 rfl HLT.out HB6.out HZ6.out
    · have HRR := Lib.hid (HRC.out HK.out.1 HK.out.2 HALL.out _ (HU.out.1 rfl))
      go_wp2_with fail
      rw [HRR.out]
      exact rs_fin Tryz.results31 rfl HLT.out HB6.out HZ6.out
theorem coded_kinds {k : Int} (h : hitF 2 k = true) : k = 1 ∨ k = 10 := by
  unfold hitF hasK at h
  simp at h
  omega
theorem timed_kinds {k : Int} (h : hitF 0 k = true) : k = 10 := by
  unfold hitF hasK at h
  simp at h
  omega
theorem timed_codes {e : Et} (hr : rightE e = true) (h : e.k = 10) : 1 ≤ e.c ∧ e.c ≤ 3 := by
  unfold rightE rright1 at hr
  rw [Bool.and_eq_true] at hr
  have h1 := hr.1
  unfold fitsE fitB at h1
  rw [h] at h1
  simp at h1
  omega
set_option maxRecDepth 100000 in
set_option maxHeartbeats 32000000 in
theorem res30 {S : Nat → Prop} {k i c : Int} {t : Bs} {b : Dt} {cs : List Int} {kids : Eo} {bl : Option Addr} {bn bc : Nat} {cl : Option Addr} {cn cc : Nat} {l : Option Addr} {n cap : Nat} {w : World} (hg : w.cell? ⟨1, 0, none⟩ = some (rty 68)) (hE : ErAt S w ⟨k, i, c, t, b, cs, kids⟩ bl bn bc cl cn cc l n cap) (hS : ∀ x, S x → x < w.heap.size) (hr : rightE ⟨k, i, c, t, b, cs, kids⟩ = true) (hok : okS ⟨k, i, c, t, b, cs, kids⟩) :
    Calls Tryz.prog 30 #[vE k i c t b bl bn bc cl cn cc l n cap] w (RSP (resM ⟨k, i, c, t, b, cs, kids⟩).1 (resM ⟨k, i, c, t, b, cs, kids⟩).2 w) := by
  obtain ⟨⟨hP, hZ⟩, hB, hsz⟩ := rw2_facts w k i c t b bl bn bc cl cn cc l n cap
  have hlt := World.block_lt_of_cell? _ _ hg
  have hten := right_ten hr
  have HEV := Lib.hid (fun (wx : World) (hx : Below w.heap.size w wx) => valueEV (N := fun _ => False) (hE.same (w' := wx) (fun x _ hl => hx.block x hl) (fun x hx2 _ => hx2)) (fun x h => h.elim))
  have HGX := Lib.hid (show ∀ wx, Below w.heap.size w wx → wx.cell? ⟨1, 0, none⟩ = some (rty 68) from fun wx hx => (World.cell?_of_block (a := ⟨1, 0, none⟩) (hx.block 1 hlt)).trans hg)
  have HRO := Lib.hid (And.intro hr (And.intro hS hten))
  have HR0 := Lib.hid (fun (h0 : k = 0) => resM0 (e := ⟨k, i, c, t, b, cs, kids⟩) h0)
  have HR7 := Lib.hid (fun (h0 : k = 7) => resM7 (e := ⟨k, i, c, t, b, cs, kids⟩) h0)
  have HRT := Lib.hid (fun (h0 : k ≠ 0) (h7 : k ≠ 7) (x : Et) (h : fnd1 0 ⟨k, i, c, t, b, cs, kids⟩ = some x) (hc : (x.c == 2) = false) => resMt h0 h7 h hc)
  have HRC := Lib.hid (fun (h0 : k ≠ 0) (h7 : k ≠ 7) (h : ∀ x, fnd1 0 ⟨k, i, c, t, b, cs, kids⟩ = some x → (x.c == 2) = true) (y : Et) (h2 : fnd1 2 ⟨k, i, c, t, b, cs, kids⟩ = some y) => resMc h0 h7 h h2)
  have HRN := Lib.hid (fun (h0 : k ≠ 0) (h7 : k ≠ 7) (h : ∀ x, fnd1 0 ⟨k, i, c, t, b, cs, kids⟩ = some x → (x.c == 2) = true) (h2 : fnd1 2 ⟨k, i, c, t, b, cs, kids⟩ = none) => resMn h0 h7 h h2)
  have HFOK0 := Lib.hid (show ∀ x, fnd1 0 ⟨k, i, c, t, b, cs, kids⟩ = some x → rightE x = true ∧ hitF 0 x.k = true ∧ 1 ≤ x.k from fun x h => by
    have h1 := fa1_ok (hit := hitF 0) (gv := false) (fun h => by cases h) hr hok (by rw [fa_fnd]; exact h)
    exact ⟨h1.1, h1.2.2.1, h1.2.2.2⟩)
  have HFOK2 := Lib.hid (show ∀ x, fnd1 2 ⟨k, i, c, t, b, cs, kids⟩ = some x → rightE x = true ∧ hitF 2 x.k = true ∧ 1 ≤ x.k from fun x h => by
    have h1 := fa1_ok (hit := hitF 2) (gv := false) (fun h => by cases h) hr hok (by rw [fa_fnd]; exact h)
    exact ⟨h1.1, h1.2.2.1, h1.2.2.2⟩)
  have HA66 := Lib.hid (fun (tb : Nat) (v : Value) (wx : World) (hgx : wx.cell? ⟨1, 0, none⟩ = some (rty 68)) (hv : EVAt S (N1 tb) wx ⟨k, i, c, t, b, cs, kids⟩ v) (h1 : 1 ≤ k) (hT : Blk wx tb [.nilIface]) (hSx : ∀ x, S x → x < wx.heap.size ∧ x ≠ tb) => And.intro (fa_fnd 0 ⟨k, i, c, t, b, cs, kids⟩ ▸ as66 aty92 at92 hgx hv hr h1 hT hSx) (fa_fnd 2 ⟨k, i, c, t, b, cs, kids⟩ ▸ as66 aty96 at96 hgx hv hr h1 hT hSx))
  generalize resM ⟨k, i, c, t, b, cs, kids⟩ = rr at *
  generalize fnd1 0 ⟨k, i, c, t, b, cs, kids⟩ = o0 at *
  generalize fnd1 2 ⟨k, i, c, t, b, cs, kids⟩ = o2 at *
  clear hE hS hr hok hg hlt hten
  unfold vE at HEV ⊢
  go_enter Tryz.func30, Tryz.ntmps30
  go_upto_region 1 with (fail)
  change Code.wp _ _ _ _ (rw2 w k i c t b bl bn bc cl cn cc l n cap)
  generalize rw2 w k i c t b bl bn bc cl cn cc l n cap = w1 at *
  obtain ⟨z, hz⟩ : ∃ z, z = w.heap.size + 1 := ⟨_, rfl⟩
  obtain ⟨p, hp⟩ : ∃ q, q = w.heap.size := ⟨_, rfl⟩
  rw [← hp] at hP
  rw [← hz] at hZ
  rw [← hz, ← hp]
  have HB := Lib.hid hB
  have HZ := Lib.hid hZ
  have HLT := Lib.hid (show w.heap.size ≤ z by omega)
  have x0 := hP.cell 0 rfl; have x1 := hP.cell 1 rfl; have x2 := hP.cell 2 rfl; have x3 := hP.cell 3 rfl; have x4 := hP.cell 4 rfl; have x5 := hP.cell 5 rfl; have x6 := hP.cell 6 rfl; have x7 := hP.cell 7 rfl; have x8 := hP.cell 8 rfl; have x9 := hP.cell 9 rfl; have x10 := hP.cell 10 rfl
  clear hP hZ hB hsz hp hz
  go_upto_region 2 with (go_at_call 50; (with_reducible refine (HEV.out _ HB.out).mono ?_); intro r2 w2 h2; obtain ⟨v, rfl, hv2, hB2⟩ := h2; have HV2 := Lib.hid hv2; have HB2 := Lib.hid (bel_tr HB.out hB2); have HZ2 := Lib.hid (HZ.out.below hB2); clear hv2 hB2)
  clear x0 x1 x2 x3 x4 x5 x6 x7 x8 x9 x10 HEV HB HZ
  by_cases h0 : k = 0
  · have HRR := Lib.hid (HR0.out h0)
    have hv0 : v = .nilIface := by
      obtain ⟨bl, bn, bc, cl, cn, cc, l, n, cap, q, p, hve, _⟩ := HV2.out
      subst h0
      exact hve
    subst hv0
    subst h0
    have z0 := HZ2.out.cell 0 rfl; have f0 := HZ2.out.free 0 (by simp [Z10]); have z1 := HZ2.out.cell 1 rfl; have f1 := HZ2.out.free 1 (by simp [Z10]); have z2 := HZ2.out.cell 2 rfl; have f2 := HZ2.out.free 2 (by simp [Z10]); have z3 := HZ2.out.cell 3 rfl; have f3 := HZ2.out.free 3 (by simp [Z10]); have z4 := HZ2.out.cell 4 rfl; have f4 := HZ2.out.free 4 (by simp [Z10]); have z5 := HZ2.out.cell 5 rfl; have f5 := HZ2.out.free 5 (by simp [Z10]); have z6 := HZ2.out.cell 6 rfl; have f6 := HZ2.out.free 6 (by simp [Z10]); have z7 := HZ2.out.cell 7 rfl; have f7 := HZ2.out.free 7 (by simp [Z10]); have z8 := HZ2.out.cell 8 rfl; have f8 := HZ2.out.free 8 (by simp [Z10]); have z9 := HZ2.out.cell 9 rfl; have f9 := HZ2.out.free 9 (by simp [Z10])
    go_wp2_with fail
    rw [HRR.out]
    exact rs_fin Tryz.results30 rfl HLT.out HB2.out HZ2.out
  by_cases h7 : k = 7
  · have HRR := Lib.hid (HR7.out h7)
    have hv0 : v = .iface 89 (.pointer none) := by
      obtain ⟨bl, bn, bc, cl, cn, cc, l, n, cap, q, p, hve, _⟩ := HV2.out
      subst h7
      exact hve
    subst hv0
    subst h7
    have hta := fun a w => ta89p a w
    have z0 := HZ2.out.cell 0 rfl; have f0 := HZ2.out.free 0 (by simp [Z10]); have z1 := HZ2.out.cell 1 rfl; have f1 := HZ2.out.free 1 (by simp [Z10]); have z2 := HZ2.out.cell 2 rfl; have f2 := HZ2.out.free 2 (by simp [Z10]); have z3 := HZ2.out.cell 3 rfl; have f3 := HZ2.out.free 3 (by simp [Z10]); have z4 := HZ2.out.cell 4 rfl; have f4 := HZ2.out.free 4 (by simp [Z10]); have z5 := HZ2.out.cell 5 rfl; have f5 := HZ2.out.free 5 (by simp [Z10]); have z6 := HZ2.out.cell 6 rfl; have f6 := HZ2.out.free 6 (by simp [Z10]); have z7 := HZ2.out.cell 7 rfl; have f7 := HZ2.out.free 7 (by simp [Z10]); have z8 := HZ2.out.cell 8 rfl; have f8 := HZ2.out.free 8 (by simp [Z10]); have z9 := HZ2.out.cell 9 rfl; have f9 := HZ2.out.free 9 (by simp [Z10])
    go_wp2_with fail
    rw [HRR.out]
    exact rs_fin Tryz.results30 rfl HLT.out HB2.out HZ2.out
  have hrng : 1 ≤ k ∧ k ≤ 10 := by have := HRO.out.2.2; omega
  have HK := Lib.hid (And.intro h0 h7)
  have HVX := Lib.hid (show ∀ (tb : Nat) (wx : World), w2.heap.size ≤ tb → Below w2.heap.size w2 wx → EVAt S (N1 tb) wx ⟨k, i, c, t, b, cs, kids⟩ v from fun tb wx htb hx => (HV2.out.mono (N' := N1 tb) (fun x hx e => by unfold N1 at e; omega)).below hx (fun x hx' e => by have h1 := HRO.out.2.1 x hx'; have h2 := HB2.out.size; unfold N1 at e; omega))
  have HSX := Lib.hid (show ∀ (tb : Nat) (wx : World), w2.heap.size ≤ tb → Below w2.heap.size w2 wx → (∀ x, S x → x < wx.heap.size ∧ x ≠ tb) from fun tb wx htb hx x hx' => by have h1 := HRO.out.2.1 x hx'; have h2 := HB2.out.size; have h3 := hx.size; omega)
  have HAS0 := Lib.hid (fun (tb : Nat) (wx : World) (htb : w2.heap.size ≤ tb) (hx : Below w2.heap.size w2 wx) (hT : Blk wx tb [.nilIface]) => (HA66.out tb v wx (HGX.out wx (bel_tr HB2.out hx)) (HVX.out tb wx htb hx) hrng.1 hT (HSX.out tb wx htb hx)).1)
  have HAS2 := Lib.hid (fun (tb : Nat) (wx : World) (htb : w2.heap.size ≤ tb) (hx : Below w2.heap.size w2 wx) (hT : Blk wx tb [.nilIface]) => (HA66.out tb v wx (HGX.out wx (bel_tr HB2.out hx)) (HVX.out tb wx htb hx) hrng.1 hT (HSX.out tb wx htb hx)).2)
  have hvk : ∃ D y, v = .iface D y ∧ ((∃ a, D = 89 ∧ y = .pointer (some a)) ∨ ∀ w, (Instr.typeAssert (.iface D y) 68 89 true).run Tryz.prog w = .ok (.tuple #[.pointer none, .bool false]) w) := by
    have hr := HRO.out.1
    obtain ⟨y, hy, _⟩ := madeAll HV2.out hr hrng.1
    dsimp only at hy
    refine ⟨_, y, hy, ?_⟩
    by_cases h2 : k = 2
    · left
      obtain ⟨bl, bn, bc, cl, cn, cc, l, n, cap, q, p, hve, _⟩ := HV2.out
      subst h2
      rw [hy] at hve
      have h9 : Value.iface (dyn 2) y = Value.iface 89 (.pointer (some ⟨p, 0, none⟩)) := hve
      cases h9
      exact ⟨_, rfl, rfl⟩
    · exact .inr (fun w => ta89k y k hrng.1 hrng.2 h2 h7 w)
  obtain ⟨D, y, rfl, hta⟩ := hvk
  clear h0 h7 hrng HA66 HVX HSX HV2 HR0 HR7
  rcases hta with ⟨a, rfl, rfl⟩ | hta
  all_goals
    have htp := fun a w => ta89p a w
    go_upto_region 8 with fail
    change Code.wp _ _ _ _ (w2.alloc (.cells #[.nilIface] 92))
    have hT3 := Blk.new w2 #[.nilIface] 92
    have hB3 : Below w2.heap.size w2 (w2.alloc (.cells #[.nilIface] 92)) := (Below.refl _ _).alloc (Nat.le_refl _) _
    generalize w2.alloc (.cells #[.nilIface] 92) = w3 at *
    obtain ⟨tb, htb⟩ : ∃ x, x = w2.heap.size := ⟨_, rfl⟩
    rw [← htb] at hT3
    rw [← htb]
    have HB23 := Lib.hid hB3
    have HC0 := Lib.hid (HAS0.out tb w3 (by omega) hB3 hT3)
    have HTB := Lib.hid (show w2.heap.size ≤ tb by omega)
    clear hT3 hB3 htb
    cases o0 with
    | none =>
      have HALLX := Lib.hid (show ∀ (x : Et), (none : Option Et) = some x → (x.c == 2) = true from fun x h => by cases h)
      go_upto_region 10 with (go_at_call 66; (with_reducible refine HC0.out.mono ?_); intro r5 w5 h5; obtain ⟨rfl, hB5⟩ := ASP.no h5; have HB25 := Lib.hid (bel_tr HB23.out hB5); clear h5 hB5)
      go_upto_region 11 with fail
      change Code.wp _ _ _ _ (w5.alloc (.cells #[.nilIface] 96))
      have hT6 := Blk.new w5 #[.nilIface] 96
      have hB6 : Below w5.heap.size w5 (w5.alloc (.cells #[.nilIface] 96)) := (Below.refl _ _).alloc (Nat.le_refl _) _
      generalize w5.alloc (.cells #[.nilIface] 96) = w6 at *
      obtain ⟨tc, htc⟩ : ∃ x, x = w5.heap.size := ⟨_, rfl⟩
      rw [← htc] at hT6
      rw [← htc]
      have hB26 : Below w2.heap.size w2 w6 := HB25.out.trans (hB6.mono HB25.out.size)
      have HB26 := Lib.hid hB26
      have HT6 := Lib.hid hT6
      have HC2 := Lib.hid (HAS2.out tc w6 (by rw [htc]; exact HB25.out.size) hB26 hT6)
      have HTC := Lib.hid (show w2.heap.size ≤ tc from by rw [htc]; exact HB25.out.size)
      clear hT6 hB6 hB26 htc
      cases o2 with
      | none =>
        have HRR := Lib.hid (HRN.out HK.out.1 HK.out.2 HALLX.out (by first | rfl | trivial))
        go_upto_region 13 with (go_at_call 66; (with_reducible refine HC2.out.mono ?_); intro r7 w7 h7; obtain ⟨rfl, hB7⟩ := ASP.no h7; have HB7 := Lib.hid (bel_tr HB26.out hB7); clear h7 hB7)
        have HBZ := Lib.hid (bel_tr HB2.out HB7.out)
        have HZ7 := Lib.hid (HZ2.out.below HB7.out)
        have z0 := HZ7.out.cell 0 rfl; have f0 := HZ7.out.free 0 (by simp [Z10]); have z1 := HZ7.out.cell 1 rfl; have f1 := HZ7.out.free 1 (by simp [Z10]); have z2 := HZ7.out.cell 2 rfl; have f2 := HZ7.out.free 2 (by simp [Z10]); have z3 := HZ7.out.cell 3 rfl; have f3 := HZ7.out.free 3 (by simp [Z10]); have z4 := HZ7.out.cell 4 rfl; have f4 := HZ7.out.free 4 (by simp [Z10]); have z5 := HZ7.out.cell 5 rfl; have f5 := HZ7.out.free 5 (by simp [Z10]); have z6 := HZ7.out.cell 6 rfl; have f6 := HZ7.out.free 6 (by simp [Z10]); have z7 := HZ7.out.cell 7 rfl; have f7 := HZ7.out.free 7 (by simp [Z10]); have z8 := HZ7.out.cell 8 rfl; have f8 := HZ7.out.free 8 (by simp [Z10]); have z9 := HZ7.out.cell 9 rfl; have f9 := HZ7.out.free 9 (by simp [Z10])
        go_wp2_with fail
        rw [HRR.out]
        exact rs_fin Tryz.results30 rfl HLT.out HBZ.out HZ7.out
      | some y2 =>
        have HRR := Lib.hid (HRC.out HK.out.1 HK.out.2 HALLX.out y2 (by first | rfl | trivial))
        have HFK := Lib.hid (HFOK2.out y2 (by first | rfl | trivial))
        go_upto_region 12 with (go_at_call 66; (with_reducible refine HC2.out.mono ?_); intro r7 w7 h7; obtain ⟨rfl, hK7, hX7⟩ := ASP.yes h7; have HX7 := Lib.hid (And.intro hK7 hX7); clear h7 hK7 hX7)
        obtain ⟨hK7, v7, hv7, hX7⟩ := HX7.out
        obtain ⟨hr7, hh7, h17⟩ := HFK.out
        have hB7 : Below w2.heap.size w2 w7 := HB26.out.trans (hK7.below HB26.out.size (fun q hq e => by have := HTC.out; unfold N1 at e; omega))
        have HB7 := Lib.hid hB7
        have HBZ := Lib.hid (bel_tr HB2.out hB7)
        have HZ7 := Lib.hid (HZ2.out.below hB7)
        have hk7 : y2.k = 1 ∨ y2.k = 10 := coded_kinds hh7
        obtain ⟨yy, hyy, hyc, _⟩ := madeAll hv7 hr7 h17
        have hyv := hyc hk7
        subst hyy
        subst hyv
        have q0 : w7.cell? ⟨tc, 0, none⟩ = some (.iface (dyn y2.k) (.agg #[.int .i64 y2.c, .string ⟨y2.t.toArray⟩])) := hX7.cell 0 rfl
        clear hK7 hv7 hX7 hr7 hh7 h17 hB7 hyc HX7 HFK HC2
        rcases hk7 with hk7 | hk7
        · rw [hk7] at q0
          have q0' : w7.cell? ⟨tc, 0, none⟩ = some (.iface 101 (.agg #[.int .i64 y2.c, .string ⟨y2.t.toArray⟩])) := q0
          have hmc := fun v w => m101c v w
          clear q0 hk7
          go_wp2_with (go_at_call 145; (with_reducible refine (code145 _ _ _).mono ?_); rintro r8 w8 ⟨rfl, hB8⟩; have HB8 := Lib.hid (bel_tr HBZ.out hB8); have HZ8 := Lib.hid (HZ7.out.below hB8); clear hB8; have z0 := HZ8.out.cell 0 rfl; have f0 := HZ8.out.free 0 (by simp [Z10]); have z1 := HZ8.out.cell 1 rfl; have f1 := HZ8.out.free 1 (by simp [Z10]); have z2 := HZ8.out.cell 2 rfl; have f2 := HZ8.out.free 2 (by simp [Z10]); have z3 := HZ8.out.cell 3 rfl; have f3 := HZ8.out.free 3 (by simp [Z10]); have z4 := HZ8.out.cell 4 rfl; have f4 := HZ8.out.free 4 (by simp [Z10]); have z5 := HZ8.out.cell 5 rfl; have f5 := HZ8.out.free 5 (by simp [Z10]); have z6 := HZ8.out.cell 6 rfl; have f6 := HZ8.out.free 6 (by simp [Z10]); have z7 := HZ8.out.cell 7 rfl; have f7 := HZ8.out.free 7 (by simp [Z10]); have z8 := HZ8.out.cell 8 rfl; have f8 := HZ8.out.free 8 (by simp [Z10]); have z9 := HZ8.out.cell 9 rfl; have f9 := HZ8.out.free 9 (by simp [Z10]))
          rw [HRR.out]
          exact rs_fin Tryz.results30 rfl HLT.out HB8.out HZ8.out
        · rw [hk7] at q0
          have q0' : w7.cell? ⟨tc, 0, none⟩ = some (.iface 110 (.agg #[.int .i64 y2.c, .string ⟨y2.t.toArray⟩])) := q0
          have hmc := fun v w => m110c v w
          clear q0 hk7
          go_wp2_with (go_at_call 194; (with_reducible refine (code194 _ _ _).mono ?_); rintro r8 w8 ⟨rfl, hB8⟩; have HB8 := Lib.hid (bel_tr HBZ.out hB8); have HZ8 := Lib.hid (HZ7.out.below hB8); clear hB8; have z0 := HZ8.out.cell 0 rfl; have f0 := HZ8.out.free 0 (by simp [Z10]); have z1 := HZ8.out.cell 1 rfl; have f1 := HZ8.out.free 1 (by simp [Z10]); have z2 := HZ8.out.cell 2 rfl; have f2 := HZ8.out.free 2 (by simp [Z10]); have z3 := HZ8.out.cell 3 rfl; have f3 := HZ8.out.free 3 (by simp [Z10]); have z4 := HZ8.out.cell 4 rfl; have f4 := HZ8.out.free 4 (by simp [Z10]); have z5 := HZ8.out.cell 5 rfl; have f5 := HZ8.out.free 5 (by simp [Z10]); have z6 := HZ8.out.cell 6 rfl; have f6 := HZ8.out.free 6 (by simp [Z10]); have z7 := HZ8.out.cell 7 rfl; have f7 := HZ8.out.free 7 (by simp [Z10]); have z8 := HZ8.out.cell 8 rfl; have f8 := HZ8.out.free 8 (by simp [Z10]); have z9 := HZ8.out.cell 9 rfl; have f9 := HZ8.out.free 9 (by simp [Z10]))
          rw [HRR.out]
          exact rs_fin Tryz.results30 rfl HLT.out HB8.out HZ8.out
    | some x2 =>
      have HFK := Lib.hid (HFOK0.out x2 (by first | rfl | trivial))
      have hk5 := timed_kinds HFK.out.2.1
      have hc5 := timed_codes HFK.out.1 hk5
      have HCC := Lib.hid (And.intro hk5 hc5)
      clear hk5 hc5
      have hstp : ∀ (w4 : World), ASP S tb true (some x2) w3 (.returned (.bool true)) w4 → w4.cell? ⟨tb, 0, none⟩ = some (.iface 110 (.agg #[.int .i64 x2.c, .string ⟨x2.t.toArray⟩])) ∧ Below w2.heap.size w2 w4 := by
        intro w4 h4
        obtain ⟨_, hK4, v4, hv4, hX4⟩ := ASP.yes h4
        obtain ⟨yy, hyy, hyc, _⟩ := madeAll hv4 HFK.out.1 HFK.out.2.2
        have hyv := hyc (.inr HCC.out.1)
        subst hyy
        subst hyv
        rw [HCC.out.1] at hX4
        exact ⟨hX4.cell 0 rfl, HB23.out.trans (hK4.below HB23.out.size (fun q hq e => by have := HTB.out; unfold N1 at e; omega))⟩
      have HSTP := Lib.hid hstp
      clear hstp
      have hmt := fun v w => m110t v w
      cases hxc : (x2.c == 2)
      · have HRR := Lib.hid (HRT.out HK.out.1 HK.out.2 x2 (by first | rfl | trivial) hxc)
        have HXC := Lib.hid hxc
        clear hxc
        go_upto_region 9 with (first
          | (go_at_call 66; (with_reducible refine HC0.out.mono ?_); intro r4 w4 h4; obtain ⟨rfl, _⟩ := ASP.yes h4; have HS4 := Lib.hid (HSTP.out w4 h4); have q4 := HS4.out.1; clear h4)
          | (go_at_call 196; (with_reducible refine (timeout196 x2.c x2.t HCC.out.2 _).mono ?_); intro r5 w5 h5; rw [HXC.out] at h5; obtain ⟨rfl, hB5⟩ := h5; have HB25 := Lib.hid (bel_tr HS4.out.2 hB5); clear hB5))
        have HBZ := Lib.hid (bel_tr HB2.out HB25.out)
        have HZ5 := Lib.hid (HZ2.out.below HB25.out)
        have z0 := HZ5.out.cell 0 rfl; have f0 := HZ5.out.free 0 (by simp [Z10]); have z1 := HZ5.out.cell 1 rfl; have f1 := HZ5.out.free 1 (by simp [Z10]); have z2 := HZ5.out.cell 2 rfl; have f2 := HZ5.out.free 2 (by simp [Z10]); have z3 := HZ5.out.cell 3 rfl; have f3 := HZ5.out.free 3 (by simp [Z10]); have z4 := HZ5.out.cell 4 rfl; have f4 := HZ5.out.free 4 (by simp [Z10]); have z5 := HZ5.out.cell 5 rfl; have f5 := HZ5.out.free 5 (by simp [Z10]); have z6 := HZ5.out.cell 6 rfl; have f6 := HZ5.out.free 6 (by simp [Z10]); have z7 := HZ5.out.cell 7 rfl; have f7 := HZ5.out.free 7 (by simp [Z10]); have z8 := HZ5.out.cell 8 rfl; have f8 := HZ5.out.free 8 (by simp [Z10]); have z9 := HZ5.out.cell 9 rfl; have f9 := HZ5.out.free 9 (by simp [Z10])
        go_wp2_with fail
        rw [HRR.out]
        exact rs_fin Tryz.results30 rfl HLT.out HBZ.out HZ5.out
      · have HALLX := Lib.hid (show ∀ (x : Et), some x2 = some x → (x.c == 2) = true from fun x h => by cases h; exact hxc)
        have HXC := Lib.hid hxc
        clear hxc
        go_upto_region 10 with (first
          | (go_at_call 66; (with_reducible refine HC0.out.mono ?_); intro r4 w4 h4; obtain ⟨rfl, _⟩ := ASP.yes h4; have HS4 := Lib.hid (HSTP.out w4 h4); have q4 := HS4.out.1; clear h4)
          | (go_at_call 196; (with_reducible refine (timeout196 x2.c x2.t HCC.out.2 _).mono ?_); intro r5 w5 h5; rw [HXC.out] at h5; obtain ⟨rfl, hB5⟩ := h5; have HB25 := Lib.hid (bel_tr HS4.out.2 hB5); clear hB5))
        go_upto_region 11 with fail
        change Code.wp _ _ _ _ (w5.alloc (.cells #[.nilIface] 96))
        have hT6 := Blk.new w5 #[.nilIface] 96
        have hB6 : Below w5.heap.size w5 (w5.alloc (.cells #[.nilIface] 96)) := (Below.refl _ _).alloc (Nat.le_refl _) _
        generalize w5.alloc (.cells #[.nilIface] 96) = w6 at *
        obtain ⟨tc, htc⟩ : ∃ x, x = w5.heap.size := ⟨_, rfl⟩
        rw [← htc] at hT6
        rw [← htc]
        have hB26 : Below w2.heap.size w2 w6 := HB25.out.trans (hB6.mono HB25.out.size)
        have HB26 := Lib.hid hB26
        have HT6 := Lib.hid hT6
        have HC2 := Lib.hid (HAS2.out tc w6 (by rw [htc]; exact HB25.out.size) hB26 hT6)
        have HTC := Lib.hid (show w2.heap.size ≤ tc from by rw [htc]; exact HB25.out.size)
        clear hT6 hB6 hB26 htc
        cases o2 with
        | none =>
          have HRR := Lib.hid (HRN.out HK.out.1 HK.out.2 HALLX.out (by first | rfl | trivial))
          go_upto_region 13 with (go_at_call 66; (with_reducible refine HC2.out.mono ?_); intro r7 w7 h7; obtain ⟨rfl, hB7⟩ := ASP.no h7; have HB7 := Lib.hid (bel_tr HB26.out hB7); clear h7 hB7)
          have HBZ := Lib.hid (bel_tr HB2.out HB7.out)
          have HZ7 := Lib.hid (HZ2.out.below HB7.out)
          have z0 := HZ7.out.cell 0 rfl; have f0 := HZ7.out.free 0 (by simp [Z10]); have z1 := HZ7.out.cell 1 rfl; have f1 := HZ7.out.free 1 (by simp [Z10]); have z2 := HZ7.out.cell 2 rfl; have f2 := HZ7.out.free 2 (by simp [Z10]); have z3 := HZ7.out.cell 3 rfl; have f3 := HZ7.out.free 3 (by simp [Z10]); have z4 := HZ7.out.cell 4 rfl; have f4 := HZ7.out.free 4 (by simp [Z10]); have z5 := HZ7.out.cell 5 rfl; have f5 := HZ7.out.free 5 (by simp [Z10]); have z6 := HZ7.out.cell 6 rfl; have f6 := HZ7.out.free 6 (by simp [Z10]); have z7 := HZ7.out.cell 7 rfl; have f7 := HZ7.out.free 7 (by simp [Z10]); have z8 := HZ7.out.cell 8 rfl; have f8 := HZ7.out.free 8 (by simp [Z10]); have z9 := HZ7.out.cell 9 rfl; have f9 := HZ7.out.free 9 (by simp [Z10])
          go_wp2_with fail
          rw [HRR.out]
          exact rs_fin Tryz.results30 rfl HLT.out HBZ.out HZ7.out
        | some y2 =>
          have HRR := Lib.hid (HRC.out HK.out.1 HK.out.2 HALLX.out y2 (by first | rfl | trivial))
          have HFK := Lib.hid (HFOK2.out y2 (by first | rfl | trivial))
          go_upto_region 12 with (go_at_call 66; (with_reducible refine HC2.out.mono ?_); intro r7 w7 h7; obtain ⟨rfl, hK7, hX7⟩ := ASP.yes h7; have HX7 := Lib.hid (And.intro hK7 hX7); clear h7 hK7 hX7)
          obtain ⟨hK7, v7, hv7, hX7⟩ := HX7.out
          obtain ⟨hr7, hh7, h17⟩ := HFK.out
          have hB7 : Below w2.heap.size w2 w7 := HB26.out.trans (hK7.below HB26.out.size (fun q hq e => by have := HTC.out; unfold N1 at e; omega))
          have HB7 := Lib.hid hB7
          have HBZ := Lib.hid (bel_tr HB2.out hB7)
          have HZ7 := Lib.hid (HZ2.out.below hB7)
          have hk7 : y2.k = 1 ∨ y2.k = 10 := coded_kinds hh7
          obtain ⟨yy, hyy, hyc, _⟩ := madeAll hv7 hr7 h17
          have hyv := hyc hk7
          subst hyy
          subst hyv
          have q0 : w7.cell? ⟨tc, 0, none⟩ = some (.iface (dyn y2.k) (.agg #[.int .i64 y2.c, .string ⟨y2.t.toArray⟩])) := hX7.cell 0 rfl
          clear hK7 hv7 hX7 hr7 hh7 h17 hB7 hyc HX7 HFK HC2
          rcases hk7 with hk7 | hk7
          · rw [hk7] at q0
            have q0' : w7.cell? ⟨tc, 0, none⟩ = some (.iface 101 (.agg #[.int .i64 y2.c, .string ⟨y2.t.toArray⟩])) := q0
            have hmc := fun v w => m101c v w
            clear q0 hk7
            go_wp2_with (go_at_call 145; (with_reducible refine (code145 _ _ _).mono ?_); rintro r8 w8 ⟨rfl, hB8⟩; have HB8 := Lib.hid (bel_tr HBZ.out hB8); have HZ8 := Lib.hid (HZ7.out.below hB8); clear hB8; have z0 := HZ8.out.cell 0 rfl; have f0 := HZ8.out.free 0 (by simp [Z10]); have z1 := HZ8.out.cell 1 rfl; have f1 := HZ8.out.free 1 (by simp [Z10]); have z2 := HZ8.out.cell 2 rfl; have f2 := HZ8.out.free 2 (by simp [Z10]); have z3 := HZ8.out.cell 3 rfl; have f3 := HZ8.out.free 3 (by simp [Z10]); have z4 := HZ8.out.cell 4 rfl; have f4 := HZ8.out.free 4 (by simp [Z10]); have z5 := HZ8.out.cell 5 rfl; have f5 := HZ8.out.free 5 (by simp [Z10]); have z6 := HZ8.out.cell 6 rfl; have f6 := HZ8.out.free 6 (by simp [Z10]); have z7 := HZ8.out.cell 7 rfl; have f7 := HZ8.out.free 7 (by simp [Z10]); have z8 := HZ8.out.cell 8 rfl; have f8 := HZ8.out.free 8 (by simp [Z10]); have z9 := HZ8.out.cell 9 rfl; have f9 := HZ8.out.free 9 (by simp [Z10]))
            rw [HRR.out]
            exact rs_fin Tryz.results30 rfl HLT.out HB8.out HZ8.out
          · rw [hk7] at q0
            have q0' : w7.cell? ⟨tc, 0, none⟩ = some (.iface 110 (.agg #[.int .i64 y2.c, .string ⟨y2.t.toArray⟩])) := q0
            have hmc := fun v w => m110c v w
            clear q0 hk7
            go_wp2_with (go_at_call 194; (with_reducible refine (code194 _ _ _).mono ?_); rintro r8 w8 ⟨rfl, hB8⟩; have HB8 := Lib.hid (bel_tr HBZ.out hB8); have HZ8 := Lib.hid (HZ7.out.below hB8); clear hB8; have z0 := HZ8.out.cell 0 rfl; have f0 := HZ8.out.free 0 (by simp [Z10]); have z1 := HZ8.out.cell 1 rfl; have f1 := HZ8.out.free 1 (by simp [Z10]); have z2 := HZ8.out.cell 2 rfl; have f2 := HZ8.out.free 2 (by simp [Z10]); have z3 := HZ8.out.cell 3 rfl; have f3 := HZ8.out.free 3 (by simp [Z10]); have z4 := HZ8.out.cell 4 rfl; have f4 := HZ8.out.free 4 (by simp [Z10]); have z5 := HZ8.out.cell 5 rfl; have f5 := HZ8.out.free 5 (by simp [Z10]); have z6 := HZ8.out.cell 6 rfl; have f6 := HZ8.out.free 6 (by simp [Z10]); have z7 := HZ8.out.cell 7 rfl; have f7 := HZ8.out.free 7 (by simp [Z10]); have z8 := HZ8.out.cell 8 rfl; have f8 := HZ8.out.free 8 (by simp [Z10]); have z9 := HZ8.out.cell 9 rfl; have f9 := HZ8.out.free 9 (by simp [Z10]))
            rw [HRR.out]
            exact rs_fin Tryz.results30 rfl HLT.out HB8.out HZ8.out
end Go.Proofs.YtbldidiibkcelaaGreatDoor

