/-
  clone (walk). Not a statement of the seat.
-/
import Derived.Test.YtbldidiibkcelaaGreatDoorTCopy
namespace Go.Proofs.YtbldidiibkcelaaGreatDoor
open Go.RowKit

/-- what clone comes to: the row on top is its own, and may be written -/
def CLP (k i b : Int) (t : Bs) (kids : Fo) (w : World) (e : Ending) (w' : World) : Prop :=
  ∃ l n c cs, e = .returned (.agg #[.int .i64 k, .int .i64 i, .int .u64 b, .string ⟨t.toArray⟩, .slice l n c]) ∧ (Row w.heap.size w' 5 l n c cs ∧ At (fun x => w.heap.size ≤ x ∧ blockOf l ≠ some x) w' kids cs) ∧ Below w.heap.size w w'
theorem CLP.cpp {k i b : Int} {t : Bs} {kids : Fo} {w w' : World} {e : Ending} (h : CLP k i b t kids w e w') : CPP k i b t kids w e w' := by
  obtain ⟨l, n, c, cs, rfl, ⟨h1, h2⟩, h3⟩ := h
  exact ⟨l, n, c, rfl, ⟨cs, ⟨h1.rd, fun x _ hx => (h1.lt x hx).1⟩, At.same _ h2 (fun _ _ _ => rfl) (fun x hx _ => hx.1)⟩, h3⟩
def CLOK (kids : Fo) : Prop := ∀ (k i b : Int) (t : Bs) (l : Option Addr) (n c : Nat) (S : Nat → Prop) (w : World), FoAt S w kids l n c → (∀ x, S x → x < w.heap.size) → sizeF kids ≤ 100000 →
  Calls Tryz.prog 88 #[.agg #[.int .i64 k, .int .i64 i, .int .u64 b, .string ⟨t.toArray⟩, .slice l n c]] w (CLP k i b t kids w)
def clw (w : World) (k i b : Int) (t : Bs) : World :=
  (w.alloc (.cells #[.int .i64 k, .int .i64 i, .int .u64 b, .string ⟨t.toArray⟩, .slice none 0 0] 25)).alloc (.cells #[.int .i64 0, .int .i64 0, .int .u64 0, .string ⟨#[]⟩, .slice none 0 0] 25)
theorem clw_facts (w : World) (k i b : Int) (t : Bs) : (Blk (clw w k i b t) w.heap.size (V5 k i b ⟨t.toArray⟩ none 0 0) ∧ Blk (clw w k i b t) (w.heap.size + 1) (V5 0 0 0 ⟨#[]⟩ none 0 0)) ∧ Below w.heap.size w (clw w k i b t) ∧ (clw w k i b t).heap.size = w.heap.size + 2 := by
  refine ⟨⟨(Blk.new w _ _).alloc _, ?_⟩, ((Below.refl _ w).alloc (Nat.le_refl _) _).alloc (by simp) _, by simp [clw]⟩
  have := Blk.new (w.alloc (.cells #[.int .i64 k, .int .i64 i, .int .u64 b, .string ⟨t.toArray⟩, .slice none 0 0] 25)) #[.int .i64 0, .int .i64 0, .int .u64 0, .string ⟨#[]⟩, .slice none 0 0] 25
  simpa [clw, V5] using this
theorem cl_res {tmps : Array Value} {w : World} {db : Nat} {v0 v1 v2 v3 v4 : Value} (ht : tmps.getD 2 undef = .pointer (some ⟨db, 0, none⟩)) (h : Blk w db [v0, v1, v2, v3, v4]) :
    (results Tryz.f88 tmps).run Tryz.prog w = .ok (.agg #[v0, v1, v2, v3, v4]) w := by
  have c0 := h.cell 0 rfl
  have c1 := h.cell 1 rfl
  have c2 := h.cell 2 rfl
  have c3 := h.cell 3 rfl
  have c4 := h.cell 4 rfl
  have ht' : tmps[2]?.getD undef = .pointer (some ⟨db, 0, none⟩) := by simpa using ht
  simp [results, Tryz.results88, go_sem, ht', c0, c1, c2, c3, c4]
theorem cl_none {w w3 wr : World} {kids : Fo} {k i b : Int} {t : Bs} {l : Option Addr} {n c z q : Nat} {cs : List Value} {tmps : Array Value} (ht : tmps.getD 2 undef = .pointer (some ⟨z, 0, none⟩)) (hz : z = w.heap.size + 1) (hq : q = w.heap.size)
    (h3 : w3.heap.size = w.heap.size + 2) (hBW : Below w.heap.size w w3) (hZ : Blk wr z (V5 0 0 0 ⟨#[]⟩ none 0 0)) (hR : Row w3.heap.size wr 5 l n c cs ∧ At (fun x => w3.heap.size ≤ x ∧ blockOf l ≠ some x) wr kids cs) (hK : Kept (N1 q) w3 wr) (hsz : w3.heap.size ≤ wr.heap.size) :
    bodyPost Tryz.prog Tryz.f88 (CLP k i b t kids w) Exit.ret { tmps := tmps, defers := [] } (st5 wr z (.int .i64 k) (.int .i64 i) (.int .u64 b) (.string ⟨t.toArray⟩) (.slice l n c)) := by
  refine bodyPost_ret (cl_res ht (st5_blk hZ _ _ _ _ _)) rfl ?_
  have h1 := st5_kept (w := wr) (b := z) (.int .i64 k) (.int .i64 i) (.int .u64 b) (.string ⟨t.toArray⟩) (.slice l n c)
  refine ⟨l, n, c, cs, rfl, ⟨(hR.1.keep h1 (fun x hx e => ?_)).mono (by omega), At.same _ hR.2 (fun x hx hlt => h1.block x hlt (fun e => ?_)) (fun x hx _ => ⟨?_, hx.2⟩)⟩, ?_⟩
  · have := (hR.1.lt x hx).1; unfold N1 at e; omega
  · have := hx.1; unfold N1 at e; omega
  · have := hx.1; omega
  · exact hBW.trans ((hK.below (B := w.heap.size) (by omega) (fun x hx e => by unfold N1 at e; omega)).trans (h1.below (by omega) (fun x hx e => by unfold N1 at e; omega)))
set_option maxHeartbeats 8000000 in
set_option maxRecDepth 100000 in
theorem cloneN {kids : Fo} (hall : kids.All CLOK) : CLOK kids := by
  intro k i b t l n c S w hF hS hsz
  obtain ⟨i0, hi, hy0, hy1, hy2⟩ := info_parts datumInfo
  obtain ⟨⟨hQ, hZ⟩, hBW, hsz3⟩ := clw_facts w k i b t
  have hlen := hF.len
  have hls := len_size kids
  have hn9 : n ≤ 100000 := by omega
  have HF := Lib.hid (hF.same (w' := clw w k i b t) (fun x hx hlt => hBW.block x hlt) (fun _ hx _ => hx))
  have HS := Lib.hid hS
  have HALL := Lib.hid hall
  have HSZ := Lib.hid hsz
  have HLEN := Lib.hid hlen
  have H3 := Lib.hid hsz3
  have HBW := Lib.hid hBW
  clear hF hS hall hsz hlen hls hBW
  go_enter Tryz.func88, Tryz.ntmps88
  go_upto_region 3 with (fail)
  change Code.wp _ _ _ _ (clw w k i b t)
  generalize clw w k i b t = w3 at *
  obtain ⟨z, hz⟩ : ∃ z, z = w.heap.size + 1 := ⟨_, rfl⟩
  obtain ⟨q, hq⟩ : ∃ q, q = w.heap.size := ⟨_, rfl⟩
  rw [← hq] at hQ
  rw [← hz] at hZ
  rw [← hz, ← hq]
  have HPQ := Lib.hid (And.intro hq (And.intro hz hq))
  have HZ3 := Lib.hid hZ
  have H0 := Lib.hid (show CpRel kids k i b t w3 q (.int .i64 0) w3 from ⟨.nil, kids, none, 0, [], rfl, rfl, ⟨Row.nil _ _ _, rfl⟩, hQ, Kept.refl _ _⟩)
  clear hZ hQ hz hq hsz3
  go_wp2_with fail
  go_loopw [11] (fun t10 wr => CpRel kids k i b t w3 q t10 wr) (fun t10 _ => n - (intOf t10).toNat)
  case atStart => exact H0.out
  case round =>
    obtain ⟨dn, rest, l1, c1, cs, rfl, hk, hR, hQr, hK⟩ := hrel
    have hlen := HLEN.out
    rw [hk, Fo.len_app] at hlen
    have HR := Lib.hid hR
    have HQR := Lib.hid hQr
    have HK := Lib.hid hK
    have q4 := hQr.cell 4 rfl
    have HZR := Lib.hid (HZ3.out.keep hK (by have := HPQ.out; unfold N1; omega))
    have HB3 := Lib.hid hK.size
    clear hR H0
    cases rest with
    | nil =>
      have hj : ¬ (dn.len : Int) < (n : Int) := by have : Fo.len .nil = 0 := rfl; omega
      have hke : kids = dn := by rw [hk, Fo.app_nil]
      have HKE := Lib.hid hke
      have q0 := hQr.cell 0 rfl
      have q1 := hQr.cell 1 rfl
      have q2 := hQr.cell 2 rfl
      have q3 := hQr.cell 3 rfl
      have z0 := HZR.out.cell 0 rfl
      have z1 := HZR.out.cell 1 rfl
      have z2 := HZR.out.cell 2 rfl
      have z3 := HZR.out.cell 3 rfl
      have z4 := HZR.out.cell 4 rfl
      have f0 := HZR.out.free 0 (by simp [V5])
      have f1 := HZR.out.free 1 (by simp [V5])
      have f2 := HZR.out.free 2 (by simp [V5])
      have f3 := HZR.out.free 3 (by simp [V5])
      have f4 := HZR.out.free 4 (by simp [V5])
      clear hk hlen hke hQr hK
      go_wp2_with fail
      rw [HKE.out]
      exact cl_none rfl HPQ.out.2.1 (by have := HPQ.out; omega) H3.out HBW.out HZR.out HR.out HK.out HB3.out
    | cons k2 i2 b2 t2 ks r2 =>
      have hlr : (Fo.cons k2 i2 b2 t2 ks r2).len = r2.len + 1 := rfl
      have hF := HF.out.keepS hK (fun x hx e => by have := HS.out x hx; have := HPQ.out; unfold N1 at e; omega)
      rw [hk] at hF
      obtain ⟨bb, off, a2, n2, cp2, rfl, hkF, e0, e1, e2, e3, e4, hnb, hjn⟩ := hF.elem
      have hj : (dn.len : Int) < (n : Int) := by omega
      have hOK : CLOK ks := by
        have hal := HALL.out
        rw [hk] at hal
        exact (Fo.All.split dn hal).1
      have hsz := size_app dn (.cons k2 i2 b2 t2 ks r2)
      rw [← hk] at hsz
      have hsz9 := HSZ.out
      simp only [sizeF] at hsz
      have HC0 := Lib.hid (fun (wx : World) (hx : Below wr.heap.size wr wx) => hOK k2 i2 b2 t2 a2 n2 cp2 S wx (hkF.same (w' := wx) (fun x _ hlt => hx.block x hlt) (fun _ hx2 _ => hx2)) (fun x hx2 => Nat.lt_of_lt_of_le (HS.out x hx2) (by have := H3.out; have := HB3.out; have := hx.size; omega)) (by omega))
      have HKK := Lib.hid hk
      have hdl : dn.len ≤ 100000 := by omega
      generalize hjj : dn.len = j at *
      have HJJ := Lib.hid hjj
      have HJ := Lib.hid hjn
      clear hkF hOK hk hlen hF hlr hsz hsz9 hjj hQr hK
      go_wp2_with fail
      have hbB := Blk.new wr #[.int .i64 k2, .int .i64 i2, .int .u64 b2, .string ⟨t2.toArray⟩, .slice a2 n2 cp2] 25
      have hab : Below wr.heap.size wr (wr.alloc (.cells #[.int .i64 k2, .int .i64 i2, .int .u64 b2, .string ⟨t2.toArray⟩, .slice a2 n2 cp2] 25)) := (Below.refl _ _).alloc (Nat.le_refl _) _
      change Code.wp _ _ _ _ (wr.alloc (.cells #[.int .i64 k2, .int .i64 i2, .int .u64 b2, .string ⟨t2.toArray⟩, .slice a2 n2 cp2] 25))
      have hWS := Lib.hid (show (wr.alloc (.cells #[.int .i64 k2, .int .i64 i2, .int .u64 b2, .string ⟨t2.toArray⟩, .slice a2 n2 cp2] 25)).heap.size = wr.heap.size + 1 from by simp)
      generalize wr.alloc (.cells #[.int .i64 k2, .int .i64 i2, .int .u64 b2, .string ⟨t2.toArray⟩, .slice a2 n2 cp2] 25) = wb at *
      obtain ⟨bx, hbx⟩ : ∃ bx, bx = wr.heap.size := ⟨_, rfl⟩
      rw [← hbx] at hbB
      rw [← hbx]
      have hxs : wb.heap.size = wr.heap.size + 1 := by have h1 := hbB.1; rw [hbx] at h1; have h2 := hWS.out; omega
      have HB5 := Lib.hid hbB
      have HAB := Lib.hid hab
      have HBX := Lib.hid (And.intro hbx hxs)
      have q4b := cellAt hab q4
      have HQB := Lib.hid (HQR.out.below hab)
      have HRB := Lib.hid (And.intro (HR.out.1.below hab) (At.same _ HR.out.2 (fun x _ hlt => hab.block x hlt) (fun _ hx _ => hx)))
      have HKB := Lib.hid (HK.out.calm hab)
      have HB3B := Lib.hid (Nat.le_trans HB3.out hab.size)
      have HC := Lib.hid (fun (wx : World) (hx : Below wb.heap.size wb wx) => HC0.out wx (HAB.out.trans (hx.mono HAB.out.size)))
      have z0 := hbB.cell 0 rfl
      have z1 := hbB.cell 1 rfl
      have z2 := hbB.cell 2 rfl
      have z3 := hbB.cell 3 rfl
      have z4 := hbB.cell 4 rfl
      have HKEEP := Lib.hid (show ∀ wx, Below wb.heap.size wb wx → wx.cell? ⟨q, 4, none⟩ = some (.slice l1 j c1) ∧ (wx.cell? ⟨bx, 0, none⟩ = some (.int .i64 k2) ∧ wx.cell? ⟨bx, 1, none⟩ = some (.int .i64 i2) ∧ wx.cell? ⟨bx, 2, none⟩ = some (.int .u64 b2) ∧ wx.cell? ⟨bx, 3, none⟩ = some (.string ⟨t2.toArray⟩) ∧ wx.cell? ⟨bx, 4, none⟩ = some (.slice a2 n2 cp2)) from fun wx hx => ⟨cellAt hx q4b, cellAt hx z0, cellAt hx z1, cellAt hx z2, cellAt hx z3, cellAt hx z4⟩)
      clear hbB hab hbx hxs q4 e0 e1 e2 e3 e4
      refine wp_region_L (S := fun wx : World => wx.cell? ⟨q, 4, none⟩ = some (.slice l1 j c1) ∧ (wx.cell? ⟨bx, 0, none⟩ = some (.int .i64 k2) ∧ wx.cell? ⟨bx, 1, none⟩ = some (.int .i64 i2) ∧ wx.cell? ⟨bx, 2, none⟩ = some (.int .u64 b2) ∧ wx.cell? ⟨bx, 3, none⟩ = some (.string ⟨t2.toArray⟩) ∧ wx.cell? ⟨bx, 4, none⟩ = some (.slice a2 n2 cp2))) (by kernel_rfl) ?_ (fun hHeld => ?_)
      · exact HKEEP.out _ (Below.refl _ _).drew
      refine takeL (i := 0) 1 (v := ?va0) rfl (by kernel_rfl) (by kernel_rfl) (by kernel_rfl) (by kernel_rfl) (by kernel_rfl) (fun _ _ _ h => h) (Or.inl ⟨by rfl, ?hy0⟩) (by assumption) ?rest0
      case hy0 => (intro w9 hSw; (try dsimp only at hSw); go_simp; try with_reducible rfl)
      try simp only [Act.put, List.setIfInBounds_toArray, List.set_cons_zero, List.set_cons_succ]
      refine takeL (i := 1) 5 (v := ?va1) rfl (by kernel_rfl) (by kernel_rfl) (by kernel_rfl) (by kernel_rfl) (by kernel_rfl) (fun _ _ _ h => h) (Or.inl ⟨by rfl, ?hy1⟩) (by assumption) ?rest1
      case hy1 => (intro w9 hSw; (try dsimp only at hSw); go_simp; try with_reducible rfl)
      try simp only [Act.put, List.setIfInBounds_toArray, List.set_cons_zero, List.set_cons_succ]
      refine takeL (i := 2) 3 (v := ?va2) rfl (by kernel_rfl) (by kernel_rfl) (by kernel_rfl) (by kernel_rfl) (by kernel_rfl) (fun _ _ _ h => h) (Or.inl ⟨by rfl, ?hy2⟩) (by assumption) ?rest2
      case hy2 => (intro w9 hSw; (try dsimp only at hSw); go_simp; try with_reducible rfl)
      try simp only [Act.put, List.setIfInBounds_toArray, List.set_cons_zero, List.set_cons_succ]
      refine oneL (i := 3) (by kernel_rfl) rfl (fun K hK => ?_)
      (go_simp; go_at_call 88; (with_reducible refine (HC.out _ (Below.refl _ _).drew).mono ?_); intro eA wv hcl; obtain ⟨lv, nv, cv, rfl, hFv, hbv⟩ := CLP.cpp hcl; clear hcl; have HFV := Lib.hid hFv; have HBV := Lib.hid ((Below.refl wb.heap.size wb).drew.trans hbv); clear hFv hbv)
      refine hK.out _ _ ?_ (fun hHeld2 => ?_)
      · exact HKEEP.out _ HBV.out
      clear hK K hHeld
      try simp only [Act.put, List.setIfInBounds_toArray, List.set_cons_zero, List.set_cons_succ]
      refine oneL (i := 4) (by kernel_rfl) rfl (fun K hK => ?_)
      go_simp
      refine hK.out _ _ ?_ (fun hHeld => ?_)
      · exact HKEEP.out _ (HBV.out.alloc HBV.out.size _)
      clear hK K hHeld2
      try simp only [Act.put, List.setIfInBounds_toArray, List.set_cons_zero, List.set_cons_succ]
      have HR9 := fun o => Lib.hid ((HRB.out.1.below HBV.out).alloc o)
      have HS9 := Lib.hid (Src.oneRow (P := Tryz.prog) (w := wv) (tx := 23) Tryz.underlying23 (V5 k2 i2 b2 ⟨t2.toArray⟩ lv nv cv) _ 25 (g := wv.heap.size) rfl rfl rfl (V5_one _ _ _ _ _ _ _))
      have hle9 : w3.heap.size ≤ wv.heap.size := Nat.le_trans HB3B.out HBV.out.size
      refine oneL (i := 5) (by kernel_rfl) rfl (fun K hK => ?_)
      refine step_append_row rfl _ _ 23 23 rfl 25 i0 (.agg #[.int .i64 0, .int .i64 0, .int .u64 0, .string ⟨#[]⟩, .slice none 0 0]) 5 64 Tryz.underlying23 hi hy0 hy1 hy2 rfl rfl (HR9 _).out 1 _ HS9.out (by unfold maxLen; omega) (by omega) (by simp; omega) ?_
      intro a4 c4 w4 hrow hgr hbk
      have HR4 := Lib.hid hrow
      have HG4 := Lib.hid hgr
      have HB4 := Lib.hid hbk
      clear hrow hgr hbk
      have hlp : ∀ x, blockOf l1 = some x → w3.heap.size ≤ x := fun x hx => (HRB.out.1.lt x hx).1
      have hkeep4 : ∀ x, x < w3.heap.size → w4.heap[x]? = wb.heap[x]? := fun x hx => by
        have hxr : x < wb.heap.size := Nat.lt_of_lt_of_le hx HB3B.out
        rw [HG4.out.block x (by have := HBV.out.size; simp; omega) (fun e => by have := hlp x e.symm; omega), Below.heap_alloc _ _ _ (by have := HBV.out.size; omega), HBV.out.block x hxr]
      have hq9 : q < w3.heap.size := by have := HPQ.out; have := H3.out; omega
      have hbx4 : w4.heap[bx]? = wb.heap[bx]? := by
        have hlt : bx < wb.heap.size := HB5.out.1
        rw [HG4.out.block bx (by have := HBV.out.size; simp; omega) (fun e => by have := (HR.out.1.lt bx e.symm).2; have := HBX.out; omega), Below.heap_alloc _ _ _ (by have := HBV.out.size; omega), HBV.out.block bx hlt]
      have hB4 := HB5.out.same hbx4
      have hQ4 := HQB.out.same (hkeep4 q hq9)
      have HQ4 := Lib.hid hQ4
      have hq4 := hQ4.cell 4 rfl
      have hf4 := hQ4.free 4 (by simp [V5])
      have hS4 : w4.cell? ⟨q, 4, none⟩ = some (.slice l1 j c1) ∧ (w4.cell? ⟨bx, 0, none⟩ = some (.int .i64 k2) ∧ w4.cell? ⟨bx, 1, none⟩ = some (.int .i64 i2) ∧ w4.cell? ⟨bx, 2, none⟩ = some (.int .u64 b2) ∧ w4.cell? ⟨bx, 3, none⟩ = some (.string ⟨t2.toArray⟩) ∧ w4.cell? ⟨bx, 4, none⟩ = some (.slice a2 n2 cp2)) := ⟨hq4, hB4.cell 0 rfl, hB4.cell 1 rfl, hB4.cell 2 rfl, hB4.cell 3 rfl, hB4.cell 4 rfl⟩
      have HK4 := Lib.hid hkeep4
      refine hK.out _ _ hS4 (fun hHeld2 => ?_)
      clear hK K hHeld hlp hkeep4 hq9 hbx4 hB4 hQ4
      try simp only [Act.put, List.setIfInBounds_toArray, List.set_cons_zero, List.set_cons_succ]
      refine oneL (i := 6) (by kernel_rfl) rfl (fun K hK => ?_)
      go_simp
      refine hK.out _ _ hS4 (fun hHeld => ?_)
      clear hK K hHeld2
      try simp only [Act.put, List.setIfInBounds_toArray, List.set_cons_zero, List.set_cons_succ]
      refine lastL (i := 7) (by kernel_rfl) rfl (by kernel_rfl) (by kernel_rfl) (fun K hK => ?_)
      go_simp
      refine hK.out _ _ ?_
      clear hK K hHeld hS4
      go_wp2_with fail
      go_roundw
      case rel =>
        have hpq := HPQ.out
        have h3 := H3.out
        refine ⟨dn.app (.cons k2 i2 b2 t2 ks .nil), r2, a4, c4, cs ++ V5 k2 i2 b2 ⟨t2.toArray⟩ lv nv cv, ?_, by rw [Fo.app_assoc]; exact HKK.out, ?_, ?_, ?_⟩
        · rw [Fo.len_app, HJJ.out]; simp [Fo.len]
        · have hl : (dn.app (.cons k2 i2 b2 t2 ks .nil)).len = j + 1 := by rw [Fo.len_app, HJJ.out]; rfl
          rw [hl]
          refine ⟨HR4.out.put (p := ⟨q, 4, none⟩) (by show q < _; omega) _, ?_⟩
          refine At.same _ (cp_next HRB.out.1 HRB.out.2 HB3B.out HFV.out HBV.out HG4.out HB4.out) (fun x hx hlt => ?_) (fun x hx _ => hx)
          exact (Kept.put (N := N1 q) (Kept.refl _ w4) (p := ⟨q, 4, none⟩) (.slice a4 (j + 1) c4) (fun _ => rfl)).block x hlt (by unfold N1; omega)
        · have hl : (dn.app (.cons k2 i2 b2 t2 ks .nil)).len = j + 1 := by rw [Fo.len_app, HJJ.out]; rfl
          rw [hl]
          simpa [V5] using HQ4.out.set (j := 4) (.slice a4 (j + 1) c4)
        · exact (kept_grow HKB.out HBV.out HG4.out (fun x hx => (HRB.out.1.lt x hx).1)).put (p := ⟨q, 4, none⟩) _ (fun _ => rfl)
      case measure => simp [intOf]; have := HJ.out; omega
theorem clAll : ∀ f : Fo, f.All CLOK
  | .nil => trivial
  | .cons _ _ _ _ kids rest => ⟨cloneN (clAll kids), clAll rest⟩
theorem cloneG (kids : Fo) : CLOK kids := cloneN (clAll kids)
end Go.Proofs.YtbldidiibkcelaaGreatDoor

