/-
  Join (walk). Not a statement of the seat.
-/
import Derived.Test.YtbldidiibkcelaaGreatDoorEJoinM
namespace Go.Proofs.YtbldidiibkcelaaGreatDoor
open Go.RowKit

set_option maxHeartbeats 16000000 in
set_option maxRecDepth 100000 in
theorem ejoinN {kids : Eo} {id : Int} {l : Option Addr} {n cap : Nat} {S : Nat → Prop} {w : World} (hE : EoAt S w kids l n cap) (hS : ∀ x, S x → x < w.heap.size) (hsk : kids.len ≤ 100000) (hok : okC kids) (hrng : rngK kids) :
    Calls Tryz.prog 22 #[.slice l n cap, .int .i64 id] w (CLE (jE id kids).k (jE id kids).i (jE id kids).c (jE id kids).t (jE id kids).b (jE id kids).cs (jE id kids).l w) := by
  obtain ⟨i0, hi, hy0, hy1, hy2⟩ := info_parts errInfo
  obtain ⟨⟨hZ, hQ⟩, hBW, hsz3⟩ := jw_facts w id
  have hlen := hE.len
  have hn9 : n ≤ 100000 := by omega
  have HF4 := Lib.hid (hE.same (w' := jw w id) (fun x hx hlt => hBW.block x hlt) (fun _ hx _ => hx))
  have HS := Lib.hid hS
  have HSZ := Lib.hid (And.intro hok hrng)
  have HLEN := Lib.hid hlen
  clear hE hS hsk hok hrng hlen
  go_enter Tryz.func22, Tryz.ntmps22
  go_upto_region 2 with (fail)
  change Code.wp _ _ _ _ (jw w id)
  generalize jw w id = w4 at *
  obtain ⟨q, hq⟩ : ∃ q, q = w.heap.size + 1 := ⟨_, rfl⟩
  obtain ⟨z, hz⟩ : ∃ z, z = w.heap.size := ⟨_, rfl⟩
  rw [← hz] at hZ
  rw [← hq] at hQ
  rw [← hq, ← hz]
  have HZ4 := Lib.hid hZ
  have HBW4 := Lib.hid hBW
  have HQLT := Lib.hid (show q < w4.heap.size ∧ z < w4.heap.size ∧ w.heap.size ≤ q ∧ w.heap.size ≤ z ∧ q ≠ z ∧ w.heap.size + 2 ≤ w4.heap.size ∧ q < w.heap.size + 2 ∧ z < w.heap.size + 2 from by omega)
  have H0 := Lib.hid (show JnRel kids id w4 q (.int .i64 0) w4 from ⟨.nil, kids, none, 0, [], rfl, rfl, ⟨Row.nil _ _ _, rfl⟩, hQ, Kept.refl _ _⟩)
  clear hZ hQ hBW hsz3 hq hz
  go_wp2_with fail
  go_loopw [12] (fun t12 wr => JnRel kids id w4 q t12 wr) (fun t12 _ => n - (intOf t12).toNat)
  case atStart => exact H0.out
  case round =>
    obtain ⟨dn, rest, l1, c1, vs, rfl, hk, hR, hQr, hK⟩ := hrel
    have hlen := HLEN.out
    rw [hk, Eo.len_app] at hlen
    have HR := Lib.hid hR
    have HQR := Lib.hid hQr
    have HK := Lib.hid hK
    have q10 := hQr.cell 10 rfl
    have HZR := Lib.hid (HZ4.out.keep hK (by have := HQLT.out; unfold N1; omega))
    have HB3 := Lib.hid hK.size
    clear hR H0
    cases rest with
    | nil =>
      have hj : ¬ (dn.len : Int) < (n : Int) := by have : Eo.len .nil = 0 := rfl; omega
      have hke : kids = dn := by rw [hk, Eo.app_nil]
      have HKE := Lib.hid hke
      have q0 := hQr.cell 0 rfl
      have q1 := hQr.cell 1 rfl
      have q2 := hQr.cell 2 rfl
      have q3 := hQr.cell 3 rfl
      have q4 := hQr.cell 4 rfl
      have q5 := hQr.cell 5 rfl
      have q6 := hQr.cell 6 rfl
      have q7 := hQr.cell 7 rfl
      have q8 := hQr.cell 8 rfl
      have q9 := hQr.cell 9 rfl
      have z0 := HZR.out.cell 0 rfl
      have f0 := HZR.out.free 0 (by simp [Z11])
      have z1 := HZR.out.cell 1 rfl
      have f1 := HZR.out.free 1 (by simp [Z11])
      have z2 := HZR.out.cell 2 rfl
      have f2 := HZR.out.free 2 (by simp [Z11])
      have z3 := HZR.out.cell 3 rfl
      have f3 := HZR.out.free 3 (by simp [Z11])
      have z4 := HZR.out.cell 4 rfl
      have f4 := HZR.out.free 4 (by simp [Z11])
      have z5 := HZR.out.cell 5 rfl
      have f5 := HZR.out.free 5 (by simp [Z11])
      have z6 := HZR.out.cell 6 rfl
      have f6 := HZR.out.free 6 (by simp [Z11])
      have z7 := HZR.out.cell 7 rfl
      have f7 := HZR.out.free 7 (by simp [Z11])
      have z8 := HZR.out.cell 8 rfl
      have f8 := HZR.out.free 8 (by simp [Z11])
      have z9 := HZR.out.cell 9 rfl
      have f9 := HZR.out.free 9 (by simp [Z11])
      have z10 := HZR.out.cell 10 rfl
      have f10 := HZR.out.free 10 (by simp [Z11])
      clear hk hlen hke hQr hK
      have hRo := HR.out
      have hfl : (filt dn).len ≤ 100000 := Nat.le_trans (filt_len dn) (by rw [← HKE.out]; have := HLEN.out; omega)
      by_cases hf0 : (filt dn).len = 0
      · have hfz : ((filt dn).len : Int) = 0 := by omega
        have HFZ := Lib.hid hf0
        have hjz : jE id kids = Et.zero := by unfold jE; rw [HKE.out, if_pos hf0]
        have HJZ := Lib.hid hjz
        clear hf0 hRo hjz
        generalize (filt dn).len = fl at *
        go_wp2_with fail
        rw [HJZ.out]
        exact ce_finj (kids := .nil) (k := 0) (i := 0) (c := 0) (t := []) (b := Dt.zero) (cs := []) (bl := none) (bn := 0) (bc := 0) (cl := none) (cn := 0) (cc := 0) (l := none) (n := 0) (cap := 0) (vs := []) 4 Tryz.results22 rfl (by have := HQLT.out; omega) HBW4.out HZR.out (FoAt.nil _ _) (Row.nil _ _ _) ⟨Row.nil _ _ _, rfl⟩ HK.out HQLT.out.2.2.1
      · have hfz : ¬ ((filt dn).len : Int) = 0 := by omega
        have hjz : jE id kids = ⟨4, id, 0, [], Dt.zero, [], filt dn⟩ := by unfold jE; rw [HKE.out, if_neg hf0]
        have HJZ := Lib.hid hjz
        clear hf0 hRo hjz
        go_wp2_with fail
        rw [HJZ.out]
        exact ce_finj (kids := filt dn) (k := 4) (i := id) (c := 0) (t := []) (b := Dt.zero) (cs := []) (bl := none) (bn := 0) (bc := 0) (cl := none) (cn := 0) (cc := 0) 4 Tryz.results22 rfl (by have := HQLT.out; omega) HBW4.out HZR.out (FoAt.nil _ _) (Row.nil _ _ _) HR.out HK.out HQLT.out.2.2.1
    | cons k2 i2 c2 t2 b2 cs2 ks r2 =>
      have hlr : (Eo.cons k2 i2 c2 t2 b2 cs2 ks r2).len = r2.len + 1 := rfl
      have hF := HF4.out.same (w' := wr) (fun x hx hlt => hK.block x hlt (fun e => by have := HS.out x hx; have := HQLT.out; unfold N1 at e; omega)) (fun x hx _ => hx)
      rw [hk] at hF
      obtain ⟨bb, off, bl2, bn2, bc2, cl2, cn2, cc2, a2, n2, cp2, rfl, hkF, he, hnb2, hjn⟩ := hF.elem
      have e0 := he 0 (by omega)
      have e1 := he 1 (by omega)
      have e2 := he 2 (by omega)
      have e3 := he 3 (by omega)
      have e4 := he 4 (by omega)
      have e5 := he 5 (by omega)
      have e6 := he 6 (by omega)
      have e7 := he 7 (by omega)
      have e8 := he 8 (by omega)
      have e9 := he 9 (by omega)
      have e10 := he 10 (by omega)
      simp only [V11, List.getElem?_cons_zero, List.getElem?_cons_succ, Nat.add_zero] at e0 e1 e2 e3 e4 e5 e6 e7 e8 e9 e10
      have hj : (dn.len : Int) < (n : Int) := by omega
      have hsz9 := HSZ.out
      have hok9 : okC (.cons k2 i2 c2 t2 b2 cs2 ks r2) := okC_app dn (hk ▸ hsz9.1)
      have hrk : 0 ≤ k2 ∧ k2 ≤ 10 := (show rngK (.cons k2 i2 c2 t2 b2 cs2 ks r2) from rngK_app dn (hk ▸ hsz9.2)).1
      have HC0 := Lib.hid (fun (wx : World) (hx : Below wr.heap.size wr wx) => ecloneG ks k2 i2 c2 t2 b2 cs2 bl2 bn2 bc2 cl2 cn2 cc2 a2 n2 cp2 S wx (hkF.same (w' := wx) (fun x _ hlt => hx.block x hlt) (fun _ hx2 _ => hx2)) (fun x hx2 => Nat.lt_of_lt_of_le (HS.out x hx2) (by have := HQLT.out; have := HB3.out; have := hx.size; omega)) hok9.1 hok9.2.1 hok9.2.2.1 hok9.2.2.2.1)
      have HV0 := Lib.hid (fun (hk0 : k2 = 0) (wx : World) => valN (k := k2) (i := i2) (c := c2) (t := t2) (b := b2) (bl := bl2) (bn := bn2) (bc := bc2) (cl := cl2) (cn := cn2) (cc := cc2) (l := a2) (n := n2) (cap := cp2) (w := wx) hk0)
      have HV1 := Lib.hid (fun (hk1 : 1 ≤ k2) (wx : World) => valT (k := k2) (i := i2) (c := c2) (t := t2) (b := b2) (bl := bl2) (bn := bn2) (bc := bc2) (cl := cl2) (cn := cn2) (cc := cc2) (l := a2) (n := n2) (cap := cp2) (w := wx) hk1 hrk.2)
      unfold vE at HV0 HV1
      unfold vE at HC0
      have HKK := Lib.hid hk
      have hdl : dn.len ≤ 100000 := by omega
      have HFL := Lib.hid (filt_len dn)
      have hfl := filt_len dn
      have HBB := Lib.hid (show bb < w4.heap.size from by
        have h1 := HS.out bb (HF4.out.own (by omega) rfl)
        have := HQLT.out
        omega)
      generalize hjj : dn.len = j at *
      have HJJ := Lib.hid hjj
      have HJ := Lib.hid hjn
      generalize hff : (filt dn).len = fj at *
      have HFF := Lib.hid hff
      clear hkF hk hlen hF hlr hsz9 hok9 hjj hff hQr hK he
      go_upto_region 5 with (fail)
      have hbB := Blk.new wr #[.int .i64 k2, .int .i64 i2, .int .i64 c2, .string ⟨t2.toArray⟩, .int .i64 b2.k, .int .i64 b2.i, .int .u64 b2.b, .string ⟨b2.t.toArray⟩, .slice bl2 bn2 bc2, .slice cl2 cn2 cc2, .slice a2 n2 cp2] 29
      have hab : Below wr.heap.size wr (wr.alloc (.cells #[.int .i64 k2, .int .i64 i2, .int .i64 c2, .string ⟨t2.toArray⟩, .int .i64 b2.k, .int .i64 b2.i, .int .u64 b2.b, .string ⟨b2.t.toArray⟩, .slice bl2 bn2 bc2, .slice cl2 cn2 cc2, .slice a2 n2 cp2] 29)) := (Below.refl _ _).alloc (Nat.le_refl _) _
      change Code.wp _ _ _ _ (wr.alloc (.cells #[.int .i64 k2, .int .i64 i2, .int .i64 c2, .string ⟨t2.toArray⟩, .int .i64 b2.k, .int .i64 b2.i, .int .u64 b2.b, .string ⟨b2.t.toArray⟩, .slice bl2 bn2 bc2, .slice cl2 cn2 cc2, .slice a2 n2 cp2] 29))
      have hWS := Lib.hid (show (wr.alloc (.cells #[.int .i64 k2, .int .i64 i2, .int .i64 c2, .string ⟨t2.toArray⟩, .int .i64 b2.k, .int .i64 b2.i, .int .u64 b2.b, .string ⟨b2.t.toArray⟩, .slice bl2 bn2 bc2, .slice cl2 cn2 cc2, .slice a2 n2 cp2] 29)).heap.size = wr.heap.size + 1 from by simp)
      generalize (wr.alloc (.cells #[.int .i64 k2, .int .i64 i2, .int .i64 c2, .string ⟨t2.toArray⟩, .int .i64 b2.k, .int .i64 b2.i, .int .u64 b2.b, .string ⟨b2.t.toArray⟩, .slice bl2 bn2 bc2, .slice cl2 cn2 cc2, .slice a2 n2 cp2] 29)) = wa at *
      obtain ⟨bx, hbx⟩ : ∃ bx, bx = wr.heap.size := ⟨_, rfl⟩
      rw [← hbx] at hbB
      rw [← hbx]
      have HB5 := Lib.hid hbB
      have HAB := Lib.hid hab
      have HBX := Lib.hid (And.intro hbx hWS.out)
      have x0 := hbB.cell 0 rfl
      have x1 := hbB.cell 1 rfl
      have x2 := hbB.cell 2 rfl
      have x3 := hbB.cell 3 rfl
      have x4 := hbB.cell 4 rfl
      have x5 := hbB.cell 5 rfl
      have x6 := hbB.cell 6 rfl
      have x7 := hbB.cell 7 rfl
      have x8 := hbB.cell 8 rfl
      have x9 := hbB.cell 9 rfl
      have x10 := hbB.cell 10 rfl
      clear hbB hab hbx e0 e1 e2 e3 e4 e5 e6 e7 e8 e9 e10 q10
      by_cases hk2 : k2 = 0
      · subst hk2
        go_wp2_with (go_at_call 50; (with_reducible refine (HV0.out rfl _).mono ?_); rintro r5 wb ⟨rfl, hB⟩; have HAB2 := Lib.hid (bel_tr HAB.out hB); clear hB)
        go_roundw
        case rel =>
          have hfe : filt (dn.app (.cons 0 i2 c2 t2 b2 cs2 ks .nil)) = filt dn := by rw [filt_app, filt_none, Eo.app_nil]
          refine ⟨dn.app (.cons 0 i2 c2 t2 b2 cs2 ks .nil), r2, l1, c1, vs, ?_, by rw [Eo.app_assoc]; exact HKK.out, ?_, ?_, HK.out.calm HAB2.out⟩
          · rw [Eo.len_app, HJJ.out]; simp [Eo.len]
          · rw [hfe, HFF.out]
            exact ⟨HR.out.1.below HAB2.out, EAt.same _ HR.out.2 (fun x _ hlt => HAB2.out.block x hlt) (fun _ hx _ => hx)⟩
          · rw [hfe, HFF.out]
            exact HQR.out.below HAB2.out
        case measure => simp [intOf]; have := HJ.out; omega
      · go_upto_region 6 with (go_at_call 50; (with_reducible refine (HV1.out (by omega) _).mono ?_); rintro r5 wb ⟨u5, v5, rfl, _, hB⟩; have HAB2 := Lib.hid (bel_tr HAB.out hB); have HB52 := Lib.hid (HB5.out.below hB); have HS52 := Lib.hid hB.size; clear hB)
        clear x0 x1 x2 x3 x4 x5 x6 x7 x8 x9 x10
        have HRB := Lib.hid (And.intro (HR.out.1.below HAB2.out) (EAt.same _ HR.out.2 (fun x _ hlt => HAB2.out.block x hlt) (fun _ hx _ => hx)))
        have HQB := Lib.hid (HQR.out.below HAB2.out)
        have HKB := Lib.hid (HK.out.calm HAB2.out)
        have HB3B := Lib.hid (Nat.le_trans HB3.out HAB2.out.size)
        have HC := Lib.hid (fun (wx : World) (hx : Below wb.heap.size wb wx) => HC0.out wx (HAB2.out.trans (hx.mono HAB2.out.size)))
        have HKEEP := Lib.hid (show ∀ wx, Below wb.heap.size wb wx → wx.cell? ⟨q, 10, none⟩ = some (.slice l1 fj c1) ∧ (wx.cell? ⟨bx, 0, none⟩ = some (.int .i64 k2) ∧ wx.cell? ⟨bx, 1, none⟩ = some (.int .i64 i2) ∧ wx.cell? ⟨bx, 2, none⟩ = some (.int .i64 c2) ∧ wx.cell? ⟨bx, 3, none⟩ = some (.string ⟨t2.toArray⟩) ∧ wx.cell? ⟨bx, 4, none⟩ = some (.int .i64 b2.k) ∧ wx.cell? ⟨bx, 5, none⟩ = some (.int .i64 b2.i) ∧ wx.cell? ⟨bx, 6, none⟩ = some (.int .u64 b2.b) ∧ wx.cell? ⟨bx, 7, none⟩ = some (.string ⟨b2.t.toArray⟩) ∧ wx.cell? ⟨bx, 8, none⟩ = some (.slice bl2 bn2 bc2) ∧ wx.cell? ⟨bx, 9, none⟩ = some (.slice cl2 cn2 cc2) ∧ wx.cell? ⟨bx, 10, none⟩ = some (.slice a2 n2 cp2)) from fun wx hx => by
          have a := HB52.out.below hx
          exact ⟨(HQB.out.below hx).cell 10 rfl, a.cell 0 rfl, a.cell 1 rfl, a.cell 2 rfl, a.cell 3 rfl, a.cell 4 rfl, a.cell 5 rfl, a.cell 6 rfl, a.cell 7 rfl, a.cell 8 rfl, a.cell 9 rfl, a.cell 10 rfl⟩)
        refine wp_region_L (S := fun wx : World => wx.cell? ⟨q, 10, none⟩ = some (.slice l1 fj c1) ∧ (wx.cell? ⟨bx, 0, none⟩ = some (.int .i64 k2) ∧ wx.cell? ⟨bx, 1, none⟩ = some (.int .i64 i2) ∧ wx.cell? ⟨bx, 2, none⟩ = some (.int .i64 c2) ∧ wx.cell? ⟨bx, 3, none⟩ = some (.string ⟨t2.toArray⟩) ∧ wx.cell? ⟨bx, 4, none⟩ = some (.int .i64 b2.k) ∧ wx.cell? ⟨bx, 5, none⟩ = some (.int .i64 b2.i) ∧ wx.cell? ⟨bx, 6, none⟩ = some (.int .u64 b2.b) ∧ wx.cell? ⟨bx, 7, none⟩ = some (.string ⟨b2.t.toArray⟩) ∧ wx.cell? ⟨bx, 8, none⟩ = some (.slice bl2 bn2 bc2) ∧ wx.cell? ⟨bx, 9, none⟩ = some (.slice cl2 cn2 cc2) ∧ wx.cell? ⟨bx, 10, none⟩ = some (.slice a2 n2 cp2))) (by kernel_rfl) ?_ (fun hHeld => ?_)
        · exact HKEEP.out _ (Below.refl _ _).drew
        refine takeL (i := 0) 1 (v := ?vb0) rfl (by kernel_rfl) (by kernel_rfl) (by kernel_rfl) (by kernel_rfl) (by kernel_rfl) (fun _ _ _ h => h) (Or.inl ⟨by rfl, ?hz0⟩) (by assumption) ?rst0
        case hz0 => (intro w9 hSw; (try dsimp only at hSw); go_simp; try with_reducible rfl)
        try simp only [Act.put, List.setIfInBounds_toArray, List.set_cons_zero, List.set_cons_succ]
        refine takeL (i := 1) 5 (v := ?vb1) rfl (by kernel_rfl) (by kernel_rfl) (by kernel_rfl) (by kernel_rfl) (by kernel_rfl) (fun _ _ _ h => h) (Or.inl ⟨by rfl, ?hz1⟩) (by assumption) ?rst1
        case hz1 => (intro w9 hSw; (try dsimp only at hSw); go_simp; try with_reducible rfl)
        try simp only [Act.put, List.setIfInBounds_toArray, List.set_cons_zero, List.set_cons_succ]
        refine takeL (i := 2) 3 (v := ?vb2) rfl (by kernel_rfl) (by kernel_rfl) (by kernel_rfl) (by kernel_rfl) (by kernel_rfl) (fun _ _ _ h => h) (Or.inl ⟨by rfl, ?hz2⟩) (by assumption) ?rst2
        case hz2 => (intro w9 hSw; (try dsimp only at hSw); go_simp; try with_reducible rfl)
        try simp only [Act.put, List.setIfInBounds_toArray, List.set_cons_zero, List.set_cons_succ]
        refine oneL (i := 3) (by kernel_rfl) rfl (fun K hK => ?_)
        (go_simp; go_at_call 57; (with_reducible refine (HC.out _ (Below.refl _ _).drew).mono ?_); intro eA wv hcl; obtain ⟨blv, bnv, bcv, clv, cnv, ccv, lv, nv, cv, rfl, hEv, hbv⟩ := CLE.er hcl; clear hcl; unfold vE; have HEV := Lib.hid hEv; have HBV := Lib.hid (bel_tr (Below.refl wb.heap.size wb).drew hbv); clear hEv hbv)
        refine hK.out _ _ ?_ (fun hHeld2 => ?_)
        · exact HKEEP.out _ HBV.out
        clear hK K hHeld
        try simp only [Act.put, List.setIfInBounds_toArray, List.set_cons_zero, List.set_cons_succ]
        refine oneL (i := 4) (by kernel_rfl) rfl (fun K hK => ?_)
        go_simp
        refine hK.out _ _ ?_ (fun hHeld => ?_)
        · exact HKEEP.out _ (HBV.out.alloc HBV.out.size _)
        clear hK K hHeld2
        try simp only [Act.put, List.setIfInBounds_toArray, List.set_cons_zero, List.set_cons_succ]
        have HR9 := fun o => Lib.hid ((HRB.out.1.below HBV.out).alloc o)
        have HS9 := Lib.hid (show Src Tryz.prog 11 27 (.slice (some ⟨wv.heap.size, 0, none⟩) 1 1) 1 (V11 k2 i2 c2 t2 b2 blv bnv bcv clv cnv ccv lv nv cv) (wv.alloc (.cells #[.int .i64 k2, .int .i64 i2, .int .i64 c2, .string ⟨t2.toArray⟩, .int .i64 b2.k, .int .i64 b2.i, .int .u64 b2.b, .string ⟨b2.t.toArray⟩, .slice blv bnv bcv, .slice clv cnv ccv, .slice lv nv cv] 29)) from Src.oneRow (P := Tryz.prog) (w := wv) (tx := 27) Tryz.underlying27 (V11 k2 i2 c2 t2 b2 blv bnv bcv clv cnv ccv lv nv cv) #[.int .i64 k2, .int .i64 i2, .int .i64 c2, .string ⟨t2.toArray⟩, .int .i64 b2.k, .int .i64 b2.i, .int .u64 b2.b, .string ⟨b2.t.toArray⟩, .slice blv bnv bcv, .slice clv cnv ccv, .slice lv nv cv] 29 (g := wv.heap.size) rfl rfl rfl (V11_one _ _ _ _ _ _ _ _ _ _ _ _ _ _))
        have hle9 : w4.heap.size ≤ wv.heap.size := Nat.le_trans HB3B.out HBV.out.size
        refine oneL (i := 5) (by kernel_rfl) rfl (fun K hK => ?_)
        refine step_append_row rfl _ _ 27 27 rfl 29 i0 (.agg #[.int .i64 0, .int .i64 0, .int .i64 0, .string ⟨#[]⟩, .int .i64 0, .int .i64 0, .int .u64 0, .string ⟨#[]⟩, .slice none 0 0, .slice none 0 0, .slice none 0 0]) 11 152 Tryz.underlying27 hi hy0 hy1 hy2 rfl rfl (HR9 _).out 1 _ HS9.out (by unfold maxLen; omega) (by omega) (by simp; omega) ?_
        intro a4 c4 w5 hrow hgr hbk
        have HR4 := Lib.hid hrow
        have HG4 := Lib.hid hgr
        have HB4 := Lib.hid hbk
        clear hrow hgr hbk
        have hlp : ∀ x, blockOf l1 = some x → w4.heap.size ≤ x ∧ x < wr.heap.size := fun x hx => HR.out.1.lt x hx
        have hkeep4 : ∀ x, x < wb.heap.size → blockOf l1 ≠ some x → w5.heap[x]? = wb.heap[x]? := fun x hx hne => by
          rw [HG4.out.block x (by have := HBV.out.size; simp; omega) (fun e => hne e.symm), Below.heap_alloc _ _ _ (by have := HBV.out.size; omega), HBV.out.block x hx]
        have hSr := HKEEP.out wb (Below.refl _ _)
        have cp := fun (bk o : Nat) (hb : bk < wb.heap.size) (hne : blockOf l1 ≠ some bk) (v : Value) (h : wb.cell? ⟨bk, o, none⟩ = some v) => (World.cell?_of_block (a := ⟨bk, o, none⟩) (hkeep4 bk hb hne)).trans h
        have hqw : q < wb.heap.size := Nat.lt_of_lt_of_le HQLT.out.1 HB3B.out
        have hqn : blockOf l1 ≠ some q := fun e => by have := (hlp q e).1; have := HQLT.out; omega
        have hQ4 := HQB.out.same (hkeep4 q hqw hqn)
        have HQ4 := Lib.hid hQ4
        have hf4 := hQ4.free 10 (by simp [V11])
        have hew : bx < wb.heap.size := HB52.out.1
        have hen : blockOf l1 ≠ some bx := fun e => by have := (hlp bx e).2; have := HBX.out; omega
        have hS4 : w5.cell? ⟨q, 10, none⟩ = some (.slice l1 fj c1) ∧ (w5.cell? ⟨bx, 0, none⟩ = some (.int .i64 k2) ∧ w5.cell? ⟨bx, 1, none⟩ = some (.int .i64 i2) ∧ w5.cell? ⟨bx, 2, none⟩ = some (.int .i64 c2) ∧ w5.cell? ⟨bx, 3, none⟩ = some (.string ⟨t2.toArray⟩) ∧ w5.cell? ⟨bx, 4, none⟩ = some (.int .i64 b2.k) ∧ w5.cell? ⟨bx, 5, none⟩ = some (.int .i64 b2.i) ∧ w5.cell? ⟨bx, 6, none⟩ = some (.int .u64 b2.b) ∧ w5.cell? ⟨bx, 7, none⟩ = some (.string ⟨b2.t.toArray⟩) ∧ w5.cell? ⟨bx, 8, none⟩ = some (.slice bl2 bn2 bc2) ∧ w5.cell? ⟨bx, 9, none⟩ = some (.slice cl2 cn2 cc2) ∧ w5.cell? ⟨bx, 10, none⟩ = some (.slice a2 n2 cp2)) := ⟨cp _ _ hqw hqn _ hSr.1, cp _ _ hew hen _ hSr.2.1, cp _ _ hew hen _ hSr.2.2.1, cp _ _ hew hen _ hSr.2.2.2.1, cp _ _ hew hen _ hSr.2.2.2.2.1, cp _ _ hew hen _ hSr.2.2.2.2.2.1, cp _ _ hew hen _ hSr.2.2.2.2.2.2.1, cp _ _ hew hen _ hSr.2.2.2.2.2.2.2.1, cp _ _ hew hen _ hSr.2.2.2.2.2.2.2.2.1, cp _ _ hew hen _ hSr.2.2.2.2.2.2.2.2.2.1, cp _ _ hew hen _ hSr.2.2.2.2.2.2.2.2.2.2.1, cp _ _ hew hen _ hSr.2.2.2.2.2.2.2.2.2.2.2⟩
        refine hK.out _ _ hS4 (fun hHeld2 => ?_)
        clear hK K hHeld hlp hkeep4 cp hQ4 hSr hqn hew hen
        try simp only [Act.put, List.setIfInBounds_toArray, List.set_cons_zero, List.set_cons_succ]
        refine oneL (i := 6) (by kernel_rfl) rfl (fun K hK => ?_)
        go_simp
        refine hK.out _ _ hS4 (fun hHeld => ?_)
        clear hK K hHeld2
        try simp only [Act.put, List.setIfInBounds_toArray, List.set_cons_zero, List.set_cons_succ]
        have q10 := hS4.1
        refine lastL (i := 7) (by kernel_rfl) rfl (by kernel_rfl) (by kernel_rfl) (fun K hK => ?_)
        go_simp
        refine hK.out _ _ ?_
        clear hK K hHeld hS4
        go_wp2_with fail
        go_roundw
        case rel =>
          have hfe : filt (dn.app (.cons k2 i2 c2 t2 b2 cs2 ks .nil)) = (filt dn).app (.cons k2 i2 c2 t2 b2 cs2 ks .nil) := by rw [filt_app, filt_one hk2]
          have hfl2 : ((filt dn).app (.cons k2 i2 c2 t2 b2 cs2 ks .nil)).len = fj + 1 := by rw [Eo.len_app, HFF.out]; rfl
          refine ⟨dn.app (.cons k2 i2 c2 t2 b2 cs2 ks .nil), r2, a4, c4, vs ++ V11 k2 i2 c2 t2 b2 blv bnv bcv clv cnv ccv lv nv cv, ?_, by rw [Eo.app_assoc]; exact HKK.out, ?_, ?_, ?_⟩
          · rw [Eo.len_app, HJJ.out]; simp [Eo.len]
          · rw [hfe, hfl2]
            refine ⟨HR4.out.put (p := ⟨q, 10, none⟩) (by show q < _; exact HQLT.out.1) _, ?_⟩
            refine EAt.same _ (ce_next HRB.out.1 HRB.out.2 HB3B.out HEV.out HBV.out HG4.out HB4.out) (fun x hx hlt => ?_) (fun x hx _ => hx)
            exact (Kept.put (N := N1 q) (Kept.refl _ w5) (p := ⟨q, 10, none⟩) (.slice a4 (fj + 1) c4) (fun _ => rfl)).block x hlt (by have := HQLT.out.1; unfold N1; omega)
          · rw [hfe, hfl2]
            simpa [V11] using HQ4.out.set (j := 10) (.slice a4 (fj + 1) c4)
          · exact (kept_grow HKB.out HBV.out HG4.out (fun x hx => (HRB.out.1.lt x hx).1)).put (p := ⟨q, 10, none⟩) _ (fun _ => rfl)
        case measure => simp [intOf]; have := HJ.out; omega
end Go.Proofs.YtbldidiibkcelaaGreatDoor
