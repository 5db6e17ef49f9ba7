/-
  boxes.value and boxes.values (walks). Not a statement of the seat.
-/
import Derived.Test.YtofpdhkdnbnobaaGreatDoorBoxes
namespace Go.Proofs.YtofpdhkdnbnobaaGreatDoor
open Go.RowKit

theorem fb52 (n : Int) (w : World) : (callFunc 17 #[.int .u64 n]).run Tryz.prog w = .ok (.value (.float .f64 n.toNat)) w := by kernel_rfl
/-- what value comes to -/
def BXP (M : BM) (mb : Nat) (w : World) (Q : BM → Value → Prop) (e : Ending) (w' : World) : Prop := ∃ x M', e = .returned x ∧ Q M' x ∧ VB M mb w M' w'
/-- value of a value with these children -/
def BXOK (kids : Fo) : Prop := ∀ (k i b : Int) (t : Bs) (l : Option Addr) (n c : Nat) (S : Nat → Prop) (M : BM) (mb : Nat) (w : World), FoAt S w kids l n c → (∀ x, S x → x < w.heap.size ∧ ¬ NB M mb x) → BxM M mb w →
  (k = 9 → kids.len = 2) → (k = 11 → kids.len = 1) → shapeF kids → sizeF kids ≤ 100000 →
  Calls Tryz.prog 12 #[.map (some mb), .agg #[.int .i64 k, .int .i64 i, .int .u64 b, .string ⟨t.toArray⟩, .slice l n c]] w
    (BXP M mb w (fun M' x => vOne M' k i b t (ValF M' kids) x))
/-- what values comes to -/
def VSP (M : BM) (mb : Nat) (w : World) (kids : Fo) (e : Ending) (w' : World) : Prop :=
  ∃ a n c xs M', e = .returned (.slice a n c) ∧ (Row w.heap.size w' 1 a n c xs ∧ (∀ x, blockOf a = some x → ¬ NB M' mb x)) ∧ ValF M' kids xs ∧ VB M mb w M' w'
def VSRel (M : BM) (mb : Nat) (w : World) (kids : Fo) (t5 t10 : Value) (wr : World) : Prop :=
  ∃ (dn rest : Fo) (a : Option Addr) (c : Nat) (xs : List Value) (M1 : BM), t10 = .int .i64 (dn.len : Nat) ∧ t5 = .slice a dn.len c ∧ kids = dn.app rest ∧ (Row w.heap.size wr 1 a dn.len c xs ∧ (∀ x, blockOf a = some x → ¬ NB M1 mb x)) ∧ ValF M1 dn xs ∧ VB M mb w M1 wr
theorem ifaceInfo : (Tryz.prog.info? 20).map (fun i => (i.zero, i.size, i.bytes)) = some (some .nilIface, 1, 16) := by kernel_rfl
theorem vOne.iface {M : BM} {k i b : Int} {t : Bs} {P : List Value → Prop} {x : Value} (h : vOne M k i b t P x) : x = .nilIface ∨ ∃ u v, x = .iface u v := by
  unfold vOne at h
  by_cases h1 : k = 1
  · rw [if_pos h1] at h
    subst h; exact .inr ⟨_, _, rfl⟩
  rw [if_neg h1] at h
  by_cases h2 : k = 2
  · rw [if_pos h2] at h
    subst h; exact .inr ⟨_, _, rfl⟩
  rw [if_neg h2] at h
  by_cases h3 : k = 3
  · rw [if_pos h3] at h
    subst h; exact .inr ⟨_, _, rfl⟩
  rw [if_neg h3] at h
  by_cases h4 : k = 4
  · rw [if_pos h4] at h
    subst h; exact .inr ⟨_, _, rfl⟩
  rw [if_neg h4] at h
  by_cases h5 : k = 5
  · rw [if_pos h5] at h
    subst h; exact .inr ⟨_, _, rfl⟩
  rw [if_neg h5] at h
  by_cases h6 : k = 6
  · rw [if_pos h6] at h
    subst h; exact .inr ⟨_, _, rfl⟩
  rw [if_neg h6] at h
  by_cases h7 : k = 7
  · rw [if_pos h7] at h
    obtain ⟨_, _, _, rfl⟩ := h; exact .inr ⟨_, _, rfl⟩
  rw [if_neg h7] at h
  by_cases h8 : k = 8
  · rw [if_pos h8] at h
    obtain ⟨_, _, _, rfl⟩ := h; exact .inr ⟨_, _, rfl⟩
  rw [if_neg h8] at h
  by_cases h9 : k = 9
  · rw [if_pos h9] at h
    obtain ⟨_, _, _, rfl⟩ := h; exact .inr ⟨_, _, rfl⟩
  rw [if_neg h9] at h
  by_cases h10 : k = 10
  · rw [if_pos h10] at h
    subst h; exact .inr ⟨_, _, rfl⟩
  rw [if_neg h10] at h
  by_cases h11 : k = 11
  · rw [if_pos h11] at h
    obtain ⟨_, _, rfl⟩ := h; exact .inr ⟨_, _, rfl⟩
  rw [if_neg h11] at h
  by_cases h12 : k = 12
  · rw [if_pos h12] at h
    subst h; exact .inr ⟨_, _, rfl⟩
  rw [if_neg h12] at h
  by_cases h13 : k = 13
  · rw [if_pos h13] at h
    subst h; exact .inr ⟨_, _, rfl⟩
  rw [if_neg h13] at h
  subst h; exact .inl rfl
theorem build_one0 (w : World) : (Instr.buildSlice 77 1 #[(0, .nilIface)]).run Tryz.prog w = .ok (.slice (some ⟨w.heap.size, 0, none⟩) 1 1) (w.alloc (.cells #[.nilIface] 20)) := by kernel_rfl
theorem build_one1 (u : TypeId) (v : Value) (w : World) : (Instr.buildSlice 77 1 #[(0, .iface u v)]).run Tryz.prog w = .ok (.slice (some ⟨w.heap.size, 0, none⟩) 1 1) (w.alloc (.cells #[.iface u v] 20)) := by kernel_rfl
theorem vOne.build {M : BM} {k i b : Int} {t : Bs} {P : List Value → Prop} {x : Value} (h : vOne M k i b t P x) (w : World) : (Instr.buildSlice 77 1 #[(0, x)]).run Tryz.prog w = .ok (.slice (some ⟨w.heap.size, 0, none⟩) 1 1) (w.alloc (.cells #[x] 20)) := by
  rcases h.iface with rfl | ⟨u, v, rfl⟩
  · exact build_one0 w
  · exact build_one1 u v w
theorem VB.grow {M M1 : BM} {mb : Nat} {w w1 w2 : World} (h : VB M mb w M1 w1) {row : Option Nat} (g : w1.grownBy w2 row) (hr : ∀ b, row = some b → w.heap.size ≤ b ∧ ¬ NB M1 mb b) : VB M mb w M1 w2 :=
  ⟨h.bx.same (fun x hx => g.block x (h.bx.lt hx) (fun e => (hr x e.symm).2 hx)), h.kept.grown g (fun b e hb => absurd (hr b e).1 (by omega)), h.sub, h.fresh⟩
theorem FoAt.keepS {S : Nat → Prop} {N : Nat → Prop} {w w' : World} {f : Fo} {l : Option Addr} {n c : Nat} (h : FoAt S w f l n c) (g : Kept N w w') (hn : ∀ x, S x → ¬ N x) : FoAt S w' f l n c :=
  h.same (fun x hx hlt => g.block x hlt (hn x hx)) (fun _ hx _ => hx)

set_option maxHeartbeats 8000000 in
set_option maxRecDepth 100000 in
theorem vbsN {kids : Fo} (hall : kids.All BXOK) {l : Option Addr} {n c : Nat} {S : Nat → Prop} {M : BM} {mb : Nat} {w : World} (hF : FoAt S w kids l n c) (hS : ∀ x, S x → x < w.heap.size ∧ ¬ NB M mb x) (hB : BxM M mb w) (hsh : shapeF kids) (hsz : sizeF kids ≤ 100000) :
    Calls Tryz.prog 18 #[.map (some mb), .slice l n c] w (VSP M mb w kids) := by
  obtain ⟨i0, hi, hy0, hy1, hy2⟩ := info_parts ifaceInfo
  have hlen := hF.len
  have hls := len_size kids
  have hn9 : n ≤ 100000 := by omega
  have HF := Lib.hid hF
  have HS := Lib.hid hS
  have HALL := Lib.hid hall
  have HSH := Lib.hid hsh
  have HSZ := Lib.hid hsz
  have HLEN := Lib.hid hlen
  have H0 := Lib.hid (show VSRel M mb w kids (.slice none 0 0) (.int .i64 0) w from ⟨.nil, kids, none, 0, [], M, rfl, rfl, rfl, ⟨Row.nil _ _ _, fun x hx => by cases hx⟩, rfl, .refl hB (Below.refl _ _)⟩)
  clear hF hS hall hsh hlen hB hls hsz
  go_enter Tryz.func18, Tryz.ntmps18
  go_wp2_with fail
  go_loopw [5, 10] (fun t5 t10 wr => VSRel M mb w kids t5 t10 wr) (fun _ t10 _ => n - (intOf t10).toNat)
  case atStart => exact H0.out
  case round =>
    obtain ⟨dn, rest, a, cp, xs, M1, rfl, rfl, hk, ⟨hR, hRn⟩, hV, hVB⟩ := hrel
    have hlen := HLEN.out
    rw [hk, Fo.len_app] at hlen
    have HR := Lib.hid (And.intro hR hRn)
    have HV := Lib.hid hV
    have HVB := Lib.hid hVB
    clear hR hRn hV H0
    cases rest with
    | nil =>
      have hj : ¬ (dn.len : Int) < (n : Int) := by have : Fo.len .nil = 0 := rfl; omega
      have hke : kids = dn := by rw [hk, Fo.app_nil]
      have HKE := Lib.hid hke
      clear hk hlen hke hVB
      go_wp2_with fail
      go_ret
      exact ⟨a, _, cp, xs, M1, rfl, HR.out, by rw [HKE.out]; exact HV.out, HVB.out⟩
    | cons k2 i2 b2 t2 ks r2 =>
      have hlr : (Fo.cons k2 i2 b2 t2 ks r2).len = r2.len + 1 := rfl
      have hF := HF.out.keepS hVB.kept (fun x hx => (HS.out x hx).2)
      rw [hk] at hF
      obtain ⟨bb, off, a2, n2, cp2, rfl, hkF, e0, e1, e2, e3, e4, hnb, hjn⟩ := hF.elem
      have hj : (dn.len : Int) < (n : Int) := by omega
      have hOK : BXOK ks := by
        have hal := HALL.out
        rw [hk] at hal
        exact (Fo.All.split dn hal).1
      have hsr : shapeF (.cons k2 i2 b2 t2 ks r2) := shape_app dn (by rw [← hk]; exact HSH.out)
      have hsz := size_app dn (.cons k2 i2 b2 t2 ks r2)
      rw [← hk] at hsz
      have hsz9 := HSZ.out
      simp only [sizeF] at hsz
      have hab : Below wr.heap.size wr (wr.alloc (.cells #[.int .i64 k2, .int .i64 i2, .int .u64 b2, .string ⟨t2.toArray⟩, .slice a2 n2 cp2] 29)) := (Below.refl _ _).alloc (Nat.le_refl _) _
      have HAB := Lib.hid hab
      have HC := Lib.hid (hOK k2 i2 b2 t2 a2 n2 cp2 S M1 mb _ (hkF.same (fun x hx hlt => hab.block x hlt) (fun _ hx _ => hx)) (fun x hx => ⟨Nat.lt_of_lt_of_le (HS.out x hx).1 (Nat.le_trans hVB.kept.size hab.size), fun h => (HS.out x hx).2 (NB.sub hVB.fresh (HS.out x hx).1 h)⟩) (hVB.bx.below hab) hsr.1.1 hsr.1.2 hsr.2.1 (by omega))
      have HKK := Lib.hid hk
      have HJ := Lib.hid hjn
      clear hkF hOK hk hlen hF hlr hsr hsz hsz9 hVB hab
      have hdl : dn.len ≤ 100000 := by omega
      generalize hjj : dn.len = j at *
      have HJJ := Lib.hid hjj
      clear hjj
      go_wp2_with (first
        | (go_at_call 12; (with_reducible refine HC.out.mono ?_); rintro e w5 ⟨x, M2, rfl, hx, hvb⟩
           rcases hx.iface with rfl | ⟨u, v, rfl⟩ <;> (
             have HX := Lib.hid hx
             have HVC := Lib.hid (VB.ahead HVB.out.bx HAB.out hvb)
             have hone := hx.one
             have hr2 : Row w.heap.size w5 1 a j cp xs := (HR.out.1.below HAB.out).keep hvb.kept (fun b hb hn => HR.out.2 b hb hn)
             have HR5 := fun o => Lib.hid (hr2.alloc o)
             have HS5 := Lib.hid (Src.oneAt (P := Tryz.prog) (w := w5) (tx := 77) Tryz.underlying77 _ 20 hone (g := w5.heap.size) rfl)
             have hle5 : w.heap.size ≤ w5.heap.size := (HVB.out.trans HVC.out).kept.size
             have HRL := Lib.hid hr2
             clear hx hvb hr2 hone))
        | (at_builtin; refine wpList_append_row rfl _ _ 77 77 rfl 20 i0 .nilIface 1 16 Tryz.underlying77 hi hy0 hy1 hy2 rfl rfl (HR5 _).out 1 _ HS5.out (by unfold maxLen; omega) (by omega) (by simp; omega) ?_; intro a4 c4 w4 hrow hgr hbk4; have HR4 := Lib.hid hrow; have HG4 := Lib.hid hgr; have HB4 := Lib.hid hbk4; clear hrow hgr hbk4))
      all_goals
        have hl2 : (dn.app (.cons k2 i2 b2 t2 ks .nil)).len = j + 1 := by rw [Fo.len_app, HJJ.out, show (Fo.cons k2 i2 b2 t2 ks .nil).len = 1 from rfl]
        refine ⟨⟨dn.app (.cons k2 i2 b2 t2 ks .nil), r2, a4, c4, _, M2, ?_, ?_, ?_, ⟨by rw [hl2]; exact HR4.out, ?_⟩, ?_, ?_⟩, by simp [intOf]; have := HJ.out; omega⟩
        · rw [hl2]; go_num
        · rw [hl2]
        · rw [Fo.app_assoc]; exact HKK.out
        · intro b hb
          rcases HB4.out with h4 | h4
          · have hba : blockOf a = some b := by rw [← h4, hb]
            have hblt := (HR.out.1.lt b hba).2
            exact fun hn => HR.out.2 b hba (NB.sub HVC.out.fresh hblt hn)
          · intro hn
            have h5 := HVC.out.bx.lt hn
            rw [h4] at hb
            cases hb
            simp at h5
            omega
        · exact ValF.app dn (ValF.mono HVC.out.sub dn HV.out) ⟨_, [], rfl, HX.out, rfl⟩
        · refine ((HVB.out.trans HVC.out).calm ((Below.refl _ _).alloc (Nat.le_refl _) _)).grow HG4.out (fun b hb => ⟨(HR.out.1.lt b hb).1, fun hn => ?_⟩)
          exact HR.out.2 b hb (NB.sub HVC.out.fresh (HR.out.1.lt b hb).2 hn)
theorem VB.fill {M M1 : BM} {mb : Nat} {w w1 : World} (h : VB M mb w M1 w1) {p : Int × Nat} (hp : p ∈ M1) (u : Value) : VB M mb w M1 (w1.setCell ⟨p.2, 1, none⟩ u) :=
  ⟨h.bx.fill hp u, h.kept.put (p := ⟨p.2, 1, none⟩) u (fun hlt => by
    rcases h.fresh p hp with h1 | h1
    · exact .inr ⟨p, h1, rfl⟩
    · have hlt' : p.2 < w.heap.size := hlt
      omega), h.sub, h.fresh⟩
theorem zero119 : ∀ w, (zeroValue 84).run Tryz.prog w = .ok (.pointer none) w := fun _ => by kernel_rfl
theorem vOne_nil {M : BM} {k i b : Int} {t : Bs} {P : List Value → Prop} {x : Value} (hk : k ≤ 0 ∨ 14 ≤ k) (h : vOne M k i b t P x) : x = .nilIface := by
  unfold vOne at h
  iterate 13 rw [if_neg (by omega)] at h
  exact h
theorem vOne_if {M : BM} {k i b : Int} {t : Bs} {P : List Value → Prop} {x : Value} (hk : ¬ (k ≤ 0 ∨ 14 ≤ k)) (h : vOne M k i b t P x) : ∃ u v, x = .iface u v := by
  rcases h.iface with rfl | h2
  · exfalso
    unfold vOne at h
    by_cases h1 : k = 1
    · rw [if_pos h1] at h
      cases h
    rw [if_neg h1] at h
    by_cases h2 : k = 2
    · rw [if_pos h2] at h
      cases h
    rw [if_neg h2] at h
    by_cases h3 : k = 3
    · rw [if_pos h3] at h
      cases h
    rw [if_neg h3] at h
    by_cases h4 : k = 4
    · rw [if_pos h4] at h
      cases h
    rw [if_neg h4] at h
    by_cases h5 : k = 5
    · rw [if_pos h5] at h
      cases h
    rw [if_neg h5] at h
    by_cases h6 : k = 6
    · rw [if_pos h6] at h
      cases h
    rw [if_neg h6] at h
    by_cases h7 : k = 7
    · rw [if_pos h7] at h
      obtain ⟨_, _, _, h⟩ := h; cases h
    rw [if_neg h7] at h
    by_cases h8 : k = 8
    · rw [if_pos h8] at h
      obtain ⟨_, _, _, h⟩ := h; cases h
    rw [if_neg h8] at h
    by_cases h9 : k = 9
    · rw [if_pos h9] at h
      obtain ⟨_, _, _, h⟩ := h; cases h
    rw [if_neg h9] at h
    by_cases h10 : k = 10
    · rw [if_pos h10] at h
      cases h
    rw [if_neg h10] at h
    by_cases h11 : k = 11
    · rw [if_pos h11] at h
      obtain ⟨_, _, h⟩ := h; cases h
    rw [if_neg h11] at h
    by_cases h12 : k = 12
    · rw [if_pos h12] at h
      cases h
    rw [if_neg h12] at h
    by_cases h13 : k = 13
    · rw [if_pos h13] at h
      cases h
    rw [if_neg h13] at h
    omega
  · exact h2
theorem two_kids {f : Fo} (h : f.len = 2) : ∃ k1 i1 b1 t1 ks1 k2 i2 b2 t2 ks2, f = .cons k1 i1 b1 t1 ks1 (.cons k2 i2 b2 t2 ks2 .nil) := by
  match f, h with
  | .cons k1 i1 b1 t1 ks1 (.cons k2 i2 b2 t2 ks2 .nil), _ => exact ⟨_, _, _, _, _, _, _, _, _, _, rfl⟩
  | .cons _ _ _ _ _ (.cons _ _ _ _ _ (.cons _ _ _ _ _ r)), h => simp [Fo.len] at h
theorem one_kid {f : Fo} (h : f.len = 1) : ∃ k1 i1 b1 t1 ks1, f = .cons k1 i1 b1 t1 ks1 .nil := by
  match f, h with
  | .cons k1 i1 b1 t1 ks1 .nil, _ => exact ⟨_, _, _, _, _, rfl⟩
  | .cons _ _ _ _ _ (.cons _ _ _ _ _ r), h => simp [Fo.len] at h
theorem FoAt.own {S : Nat → Prop} {w : World} {f : Fo} {l : Option Addr} {n c x : Nat} (h : FoAt S w f l n c) (hn : 0 < n) (hx : blockOf l = some x) : S x := by
  obtain ⟨cs, ⟨_, h2⟩, _⟩ := h
  exact h2 x hn hx
set_option maxHeartbeats 16000000 in
set_option maxRecDepth 100000 in
theorem vbN {kids : Fo} (hall : kids.All BXOK) : BXOK kids := by
  intro k i b t l n c S M mb w hF hS hB h9 h11 hsh hsz
  have HX := boxD_blk w ⟨k, i, b, t, kids⟩ l n c
  have HBW := Lib.hid (boxD_below w ⟨k, i, b, t, kids⟩ l n c)
  have VBW := Lib.hid (VB.refl hB HBW.out)
  have HF1 := Lib.hid (hF.same (w' := boxD w ⟨k, i, b, t, kids⟩ l n c) (fun x hx hlt => HBW.out.block x hlt) (fun _ hx _ => hx))
  have HS1 := Lib.hid (fun (x : Nat) (hx : S x) => And.intro (Nat.lt_of_lt_of_le (hS x hx).1 HBW.out.size) (hS x hx).2)
  have HBL := Lib.hid (fun (x : Nat) (hx : S x) => (hS x hx).1)
  have HPN := Lib.hid (show ¬ NB M mb w.heap.size from fun h => by have := hB.lt h; omega)
  have HPE := Lib.hid (show w.heap.size = w.heap.size from rfl)
  go_enter Tryz.func12, Tryz.ntmps12
  go_upto_region 1 with (fail)
  change Code.wp _ _ _ _ (boxD w ⟨k, i, b, t, kids⟩ l n c)
  have HSZ1 := Lib.hid (show (boxD w ⟨k, i, b, t, kids⟩ l n c).heap.size = w.heap.size + 1 by simp [boxD])
  generalize boxD w ⟨k, i, b, t, kids⟩ l n c = w1 at *
  obtain ⟨p, hp⟩ : ∃ p, p = w.heap.size := ⟨_, rfl⟩
  rw [← hp] at HX HPN
  rw [← hp]
  replace HPE := Lib.hid hp
  have x0 := HX.cell 0 rfl
  have x1 := HX.cell 1 rfl
  have x2 := HX.cell 2 rfl
  have x3 := HX.cell 3 rfl
  have x4 := HX.cell 4 rfl
  clear hF hS hB HX hp
  by_cases hk : k = 0
  · subst hk
    go_wp2_with fail
    go_ret
    exact ⟨_, M, rfl, by simp [vOne], VBW.out⟩
  by_cases hk : k = 1
  · subst hk
    go_wp2_with fail
    go_ret
    exact ⟨_, M, rfl, by simp [vOne], VBW.out⟩
  by_cases hk : k = 2
  · subst hk
    go_wp2_with fail
    go_ret
    exact ⟨_, M, rfl, by simp [vOne], VBW.out⟩
  by_cases hk : k = 3
  · subst hk
    have hfb := fb52 b
    go_wp2_with fail
    go_ret
    exact ⟨_, M, rfl, by simp [vOne], VBW.out⟩
  by_cases hk : k = 4
  · subst hk
    go_wp2_with fail
    go_ret
    exact ⟨_, M, rfl, by simp [vOne], VBW.out⟩
  by_cases hk : k = 5
  · subst hk
    go_wp2_with fail
    go_ret
    exact ⟨_, M, rfl, by simp [vOne], VBW.out⟩
  by_cases hk : k = 6
  · subst hk
    go_wp2_with fail
    go_ret
    exact ⟨_, M, rfl, by simp [vOne], VBW.out⟩
  by_cases hk : k = 7
  · subst hk
    have hcv := Lib.run_convert_string_bytes (P := Tryz.prog) w1 9 76 5 ⟨t.toArray⟩ (u := .string) Tryz.underlying9 Tryz.underlying76 Tryz.underlying5
    have hbw := Lib.bytesWorld_below w1 5 ⟨t.toArray⟩
    generalize Lib.bytesWorld w1 5 ⟨t.toArray⟩ = w2 at *
    have HBB := Lib.hid hbw
    clear hbw
    go_wp2_with fail
    go_ret
    exact ⟨_, M, rfl, by simp [vOne], VBW.out.calm HBB.out⟩
  by_cases hk : k = 8
  · subst hk
    have HC := Lib.hid (vbsN hall HF1.out HS1.out VBW.out.bx hsh hsz)
    go_wp2_with (go_at_call 18; (with_reducible refine HC.out.mono ?_); rintro e w2 ⟨a5, n5, c5, xs, M5, rfl, _, _, hvb⟩; have HVB := Lib.hid hvb; clear hvb)
    go_ret
    exact ⟨_, M5, rfl, by simp [vOne], VBW.out.trans HVB.out⟩
  by_cases hk : k = 9
  · subst hk
    obtain ⟨k1, i1, b1, t1, ks1, k2, i2, b2, t2, ks2, rfl⟩ := two_kids (h9 rfl)
    obtain ⟨bb, off, a1, n1, cp1, rfl, hkF1, e0, e1, e2, e3, e4, hnb, hjn⟩ := FoAt.elem (dn := .nil) HF1.out
    obtain ⟨bb', off', a2, n2, cp2, e, hkF2, f0, f1, f2, f3, f4, _, hjn2⟩ := FoAt.elem (dn := .cons k1 i1 b1 t1 ks1 .nil) HF1.out
    cases e
    replace hjn2 : 1 < n := hjn2
    replace hjn : 0 < n := hjn
    replace e0 : w1.cell? ⟨bb, off, none⟩ = _ := e0
    replace e1 : w1.cell? ⟨bb, off + 1, none⟩ = _ := e1
    replace e2 : w1.cell? ⟨bb, off + 2, none⟩ = _ := e2
    replace e3 : w1.cell? ⟨bb, off + 3, none⟩ = _ := e3
    replace e4 : w1.cell? ⟨bb, off + 4, none⟩ = _ := e4
    replace f0 : w1.cell? ⟨bb, off + 5, none⟩ = _ := f0
    replace f1 : w1.cell? ⟨bb, off + 5 + 1, none⟩ = _ := f1
    replace f2 : w1.cell? ⟨bb, off + 5 + 2, none⟩ = _ := f2
    replace f3 : w1.cell? ⟨bb, off + 5 + 3, none⟩ = _ := f3
    replace f4 : w1.cell? ⟨bb, off + 5 + 4, none⟩ = _ := f4
    simp only [sizeF] at hsz
    have hbS := (HS1.out bb (HF1.out.own (by omega) rfl)).2
    have HKEEP := Lib.hid (show ∀ wx, Kept (NB M mb) w1 wx → wx.cell? ⟨p, 4, none⟩ = some (.slice (some ⟨bb, off, none⟩) n c) ∧ (wx.cell? ⟨bb, off, none⟩ = some (.int .i64 k1) ∧ wx.cell? ⟨bb, off + 1, none⟩ = some (.int .i64 i1) ∧ wx.cell? ⟨bb, off + 2, none⟩ = some (.int .u64 b1) ∧ wx.cell? ⟨bb, off + 3, none⟩ = some (.string ⟨t1.toArray⟩) ∧ wx.cell? ⟨bb, off + 4, none⟩ = some (.slice a1 n1 cp1)) ∧ (wx.cell? ⟨bb, off + 5, none⟩ = some (.int .i64 k2) ∧ wx.cell? ⟨bb, off + 6, none⟩ = some (.int .i64 i2) ∧ wx.cell? ⟨bb, off + 7, none⟩ = some (.int .u64 b2) ∧ wx.cell? ⟨bb, off + 8, none⟩ = some (.string ⟨t2.toArray⟩) ∧ wx.cell? ⟨bb, off + 9, none⟩ = some (.slice a2 n2 cp2)) from fun wx hk => by
      have hp : wx.heap[p]? = w1.heap[p]? := hk.block p (World.block_lt_of_cell? _ _ x4) HPN.out
      have hb : wx.heap[bb]? = w1.heap[bb]? := hk.block bb (World.block_lt_of_cell? _ _ e0) hbS
      have cp := fun (j : Nat) (v : Value) (h : w1.cell? ⟨p, j, none⟩ = some v) => (World.cell?_of_block (a := ⟨p, j, none⟩) hp).trans h
      have cb := fun (j : Nat) (v : Value) (h : w1.cell? ⟨bb, j, none⟩ = some v) => (World.cell?_of_block (a := ⟨bb, j, none⟩) hb).trans h
      exact ⟨cp _ _ x4, ⟨cb _ _ e0, cb _ _ e1, cb _ _ e2, cb _ _ e3, cb _ _ e4⟩, ⟨cb _ _ f0, cb _ _ f1, cb _ _ f2, cb _ _ f3, cb _ _ f4⟩⟩)
    have HC1 := Lib.hid (fun (wx : World) (hx : Below w1.heap.size w1 wx) => hall.1 k1 i1 b1 t1 a1 n1 cp1 S M mb wx (hkF1.same (fun x hx2 hlt => hx.block x hlt) (fun _ hx2 _ => hx2)) (fun x hx2 => ⟨Nat.lt_of_lt_of_le (HS1.out x hx2).1 hx.size, (HS1.out x hx2).2⟩) (VBW.out.bx.below hx) hsh.1.1 hsh.1.2 hsh.2.1 (by omega))
    have HC2 := Lib.hid (fun (M1 : BM) (wx : World) (hv : VB M mb w1 M1 wx) => hall.2.1 k2 i2 b2 t2 a2 n2 cp2 S M1 mb wx (hkF2.keepS hv.kept (fun x hx2 => (HS1.out x hx2).2)) (fun x hx2 => ⟨Nat.lt_of_lt_of_le (HS1.out x hx2).1 hv.kept.size, fun h => (HS1.out x hx2).2 (NB.sub hv.fresh (HS1.out x hx2).1 h)⟩) hv.bx hsh.2.2.1.1 hsh.2.2.1.2 hsh.2.2.2.1 (by omega))
    have hz0 : (0 : Int) < (n : Int) := by omega
    have hz1 : (1 : Int) < (n : Int) := by omega
    clear hkF1 hkF2 hall hsh hsz h9 h11 hbS HF1
    by_cases hk1 : k1 ≤ 0 ∨ 14 ≤ k1
    · by_cases hk2 : k2 ≤ 0 ∨ 14 ≤ k2
      · go_wp2_with fail
        go_region_held3 (fun wx : World => wx.cell? ⟨p, 4, none⟩ = some (.slice (some ⟨bb, off, none⟩) n c) ∧ (wx.cell? ⟨bb, off, none⟩ = some (.int .i64 k1) ∧ wx.cell? ⟨bb, off + 1, none⟩ = some (.int .i64 i1) ∧ wx.cell? ⟨bb, off + 2, none⟩ = some (.int .u64 b1) ∧ wx.cell? ⟨bb, off + 3, none⟩ = some (.string ⟨t1.toArray⟩) ∧ wx.cell? ⟨bb, off + 4, none⟩ = some (.slice a1 n1 cp1)) ∧ (wx.cell? ⟨bb, off + 5, none⟩ = some (.int .i64 k2) ∧ wx.cell? ⟨bb, off + 6, none⟩ = some (.int .i64 i2) ∧ wx.cell? ⟨bb, off + 7, none⟩ = some (.int .u64 b2) ∧ wx.cell? ⟨bb, off + 8, none⟩ = some (.string ⟨t2.toArray⟩) ∧ wx.cell? ⟨bb, off + 9, none⟩ = some (.slice a2 n2 cp2)))
          (first | exact HKEEP.out _ (Kept.refl _ _) | exact HKEEP.out _ (Kept.refl _ _).drew | exact HKEEP.out _ HVA.out.kept | exact HKEEP.out _ HVBB.out.kept)
          (first
            | (go_simp; go_at_call 12; (with_reducible refine (HC1.out _ (Below.refl _ _).drew).mono ?_); rintro eA wA ⟨y1, M1, rfl, hy1, hvA⟩; obtain rfl := vOne_nil hk1 hy1; have HVA := Lib.hid (VB.ahead VBW.out.bx (Below.refl _ _).drew hvA); have HY1 := Lib.hid hy1; clear hy1 hvA)
            | (go_simp; go_at_call 12; (with_reducible refine (HC2.out M1 wA HVA.out).mono ?_); rintro eB wB ⟨y2, M2, rfl, hy2, hvB⟩; obtain rfl := vOne_nil hk2 hy2; have HVBB := Lib.hid (HVA.out.trans hvB); have HSUB := Lib.hid hvB.sub; have HY2 := Lib.hid hy2; clear hy2 hvB))
        all_goals
          go_wp2_with fail
          go_ret
          refine ⟨_, M2, rfl, ?_, VBW.out.trans HVBB.out⟩
          simp only [vOne]
          exact ⟨_, _, ⟨_, _, rfl, HY1.out.mono HSUB.out (fun _ h => ValF.mono HSUB.out _ h), _, _, rfl, HY2.out, rfl⟩, rfl⟩
      · go_wp2_with fail
        go_region_held3 (fun wx : World => wx.cell? ⟨p, 4, none⟩ = some (.slice (some ⟨bb, off, none⟩) n c) ∧ (wx.cell? ⟨bb, off, none⟩ = some (.int .i64 k1) ∧ wx.cell? ⟨bb, off + 1, none⟩ = some (.int .i64 i1) ∧ wx.cell? ⟨bb, off + 2, none⟩ = some (.int .u64 b1) ∧ wx.cell? ⟨bb, off + 3, none⟩ = some (.string ⟨t1.toArray⟩) ∧ wx.cell? ⟨bb, off + 4, none⟩ = some (.slice a1 n1 cp1)) ∧ (wx.cell? ⟨bb, off + 5, none⟩ = some (.int .i64 k2) ∧ wx.cell? ⟨bb, off + 6, none⟩ = some (.int .i64 i2) ∧ wx.cell? ⟨bb, off + 7, none⟩ = some (.int .u64 b2) ∧ wx.cell? ⟨bb, off + 8, none⟩ = some (.string ⟨t2.toArray⟩) ∧ wx.cell? ⟨bb, off + 9, none⟩ = some (.slice a2 n2 cp2)))
          (first | exact HKEEP.out _ (Kept.refl _ _) | exact HKEEP.out _ (Kept.refl _ _).drew | exact HKEEP.out _ HVA.out.kept | exact HKEEP.out _ HVBB.out.kept)
          (first
            | (go_simp; go_at_call 12; (with_reducible refine (HC1.out _ (Below.refl _ _).drew).mono ?_); rintro eA wA ⟨y1, M1, rfl, hy1, hvA⟩; obtain rfl := vOne_nil hk1 hy1; have HVA := Lib.hid (VB.ahead VBW.out.bx (Below.refl _ _).drew hvA); have HY1 := Lib.hid hy1; clear hy1 hvA)
            | (go_simp; go_at_call 12; (with_reducible refine (HC2.out M1 wA HVA.out).mono ?_); rintro eB wB ⟨y2, M2, rfl, hy2, hvB⟩; obtain ⟨u2, v2, rfl⟩ := vOne_if hk2 hy2; have HVBB := Lib.hid (HVA.out.trans hvB); have HSUB := Lib.hid hvB.sub; have HY2 := Lib.hid hy2; clear hy2 hvB))
        all_goals
          go_wp2_with fail
          go_ret
          refine ⟨_, M2, rfl, ?_, VBW.out.trans HVBB.out⟩
          simp only [vOne]
          exact ⟨_, _, ⟨_, _, rfl, HY1.out.mono HSUB.out (fun _ h => ValF.mono HSUB.out _ h), _, _, rfl, HY2.out, rfl⟩, rfl⟩
    · by_cases hk2 : k2 ≤ 0 ∨ 14 ≤ k2
      · go_wp2_with fail
        go_region_held3 (fun wx : World => wx.cell? ⟨p, 4, none⟩ = some (.slice (some ⟨bb, off, none⟩) n c) ∧ (wx.cell? ⟨bb, off, none⟩ = some (.int .i64 k1) ∧ wx.cell? ⟨bb, off + 1, none⟩ = some (.int .i64 i1) ∧ wx.cell? ⟨bb, off + 2, none⟩ = some (.int .u64 b1) ∧ wx.cell? ⟨bb, off + 3, none⟩ = some (.string ⟨t1.toArray⟩) ∧ wx.cell? ⟨bb, off + 4, none⟩ = some (.slice a1 n1 cp1)) ∧ (wx.cell? ⟨bb, off + 5, none⟩ = some (.int .i64 k2) ∧ wx.cell? ⟨bb, off + 6, none⟩ = some (.int .i64 i2) ∧ wx.cell? ⟨bb, off + 7, none⟩ = some (.int .u64 b2) ∧ wx.cell? ⟨bb, off + 8, none⟩ = some (.string ⟨t2.toArray⟩) ∧ wx.cell? ⟨bb, off + 9, none⟩ = some (.slice a2 n2 cp2)))
          (first | exact HKEEP.out _ (Kept.refl _ _) | exact HKEEP.out _ (Kept.refl _ _).drew | exact HKEEP.out _ HVA.out.kept | exact HKEEP.out _ HVBB.out.kept)
          (first
            | (go_simp; go_at_call 12; (with_reducible refine (HC1.out _ (Below.refl _ _).drew).mono ?_); rintro eA wA ⟨y1, M1, rfl, hy1, hvA⟩; obtain ⟨u1, v1, rfl⟩ := vOne_if hk1 hy1; have HVA := Lib.hid (VB.ahead VBW.out.bx (Below.refl _ _).drew hvA); have HY1 := Lib.hid hy1; clear hy1 hvA)
            | (go_simp; go_at_call 12; (with_reducible refine (HC2.out M1 wA HVA.out).mono ?_); rintro eB wB ⟨y2, M2, rfl, hy2, hvB⟩; obtain rfl := vOne_nil hk2 hy2; have HVBB := Lib.hid (HVA.out.trans hvB); have HSUB := Lib.hid hvB.sub; have HY2 := Lib.hid hy2; clear hy2 hvB))
        all_goals
          go_wp2_with fail
          go_ret
          refine ⟨_, M2, rfl, ?_, VBW.out.trans HVBB.out⟩
          simp only [vOne]
          exact ⟨_, _, ⟨_, _, rfl, HY1.out.mono HSUB.out (fun _ h => ValF.mono HSUB.out _ h), _, _, rfl, HY2.out, rfl⟩, rfl⟩
      · go_wp2_with fail
        go_region_held3 (fun wx : World => wx.cell? ⟨p, 4, none⟩ = some (.slice (some ⟨bb, off, none⟩) n c) ∧ (wx.cell? ⟨bb, off, none⟩ = some (.int .i64 k1) ∧ wx.cell? ⟨bb, off + 1, none⟩ = some (.int .i64 i1) ∧ wx.cell? ⟨bb, off + 2, none⟩ = some (.int .u64 b1) ∧ wx.cell? ⟨bb, off + 3, none⟩ = some (.string ⟨t1.toArray⟩) ∧ wx.cell? ⟨bb, off + 4, none⟩ = some (.slice a1 n1 cp1)) ∧ (wx.cell? ⟨bb, off + 5, none⟩ = some (.int .i64 k2) ∧ wx.cell? ⟨bb, off + 6, none⟩ = some (.int .i64 i2) ∧ wx.cell? ⟨bb, off + 7, none⟩ = some (.int .u64 b2) ∧ wx.cell? ⟨bb, off + 8, none⟩ = some (.string ⟨t2.toArray⟩) ∧ wx.cell? ⟨bb, off + 9, none⟩ = some (.slice a2 n2 cp2)))
          (first | exact HKEEP.out _ (Kept.refl _ _) | exact HKEEP.out _ (Kept.refl _ _).drew | exact HKEEP.out _ HVA.out.kept | exact HKEEP.out _ HVBB.out.kept)
          (first
            | (go_simp; go_at_call 12; (with_reducible refine (HC1.out _ (Below.refl _ _).drew).mono ?_); rintro eA wA ⟨y1, M1, rfl, hy1, hvA⟩; obtain ⟨u1, v1, rfl⟩ := vOne_if hk1 hy1; have HVA := Lib.hid (VB.ahead VBW.out.bx (Below.refl _ _).drew hvA); have HY1 := Lib.hid hy1; clear hy1 hvA)
            | (go_simp; go_at_call 12; (with_reducible refine (HC2.out M1 wA HVA.out).mono ?_); rintro eB wB ⟨y2, M2, rfl, hy2, hvB⟩; obtain ⟨u2, v2, rfl⟩ := vOne_if hk2 hy2; have HVBB := Lib.hid (HVA.out.trans hvB); have HSUB := Lib.hid hvB.sub; have HY2 := Lib.hid hy2; clear hy2 hvB))
        all_goals
          go_wp2_with fail
          go_ret
          refine ⟨_, M2, rfl, ?_, VBW.out.trans HVBB.out⟩
          simp only [vOne]
          exact ⟨_, _, ⟨_, _, rfl, HY1.out.mono HSUB.out (fun _ h => ValF.mono HSUB.out _ h), _, _, rfl, HY2.out, rfl⟩, rfl⟩
  by_cases hk : k = 10
  · subst hk
    go_wp2_with fail
    go_ret
    exact ⟨_, M, rfl, by simp [vOne], VBW.out⟩
  by_cases hk : k = 11
  · subst hk
    obtain ⟨k1, i1, b1, t1, ks1, rfl⟩ := one_kid (h11 rfl)
    obtain ⟨bb, off, a1, n1, cp1, rfl, hkF1, e0, e1, e2, e3, e4, hnb, hjn⟩ := FoAt.elem (dn := .nil) HF1.out
    replace hjn : 0 < n := hjn
    replace e0 : w1.cell? ⟨bb, off, none⟩ = _ := e0
    replace e1 : w1.cell? ⟨bb, off + 1, none⟩ = _ := e1
    replace e2 : w1.cell? ⟨bb, off + 2, none⟩ = _ := e2
    replace e3 : w1.cell? ⟨bb, off + 3, none⟩ = _ := e3
    replace e4 : w1.cell? ⟨bb, off + 4, none⟩ = _ := e4
    simp only [sizeF] at hsz
    have hbS := (HS1.out bb (HF1.out.own (by omega) rfl)).2
    have HBS := Lib.hid hbS
    have hz0 : (0 : Int) < (n : Int) := by omega
    have HC := Lib.hid (fun (M1 : BM) (wx : World) (hv : VB M mb w1 M1 wx) => hall.1 k1 i1 b1 t1 a1 n1 cp1 S M1 mb wx (hkF1.keepS hv.kept (fun x hx2 => (HS1.out x hx2).2)) (fun x hx2 => ⟨Nat.lt_of_lt_of_le (HS1.out x hx2).1 hv.kept.size, fun h => (HS1.out x hx2).2 (NB.sub hv.fresh (HS1.out x hx2).1 h)⟩) hv.bx hsh.1.1 hsh.1.2 hsh.2.1 (by omega))
    have HM := Lib.hid VBW.out.bx.map
    have hlb := look_bxL i M
    clear hkF1 hall hsh hsz h9 h11 hbS HF1
    cases hlk : lookB i M with
    | some bx =>
      rw [hlk] at hlb
      have HQ := Lib.hid hlb
      have HMEM := Lib.hid (lookB_mem hlk)
      clear hlb hlk
      have hlkp : (Instr.lookup 54 (.map (some mb)) (.int .i64 i) false).run Tryz.prog w1 = .ok (.pointer (some ⟨bx, 0, none⟩)) w1 := by
        have h := HM.out.lookup (P := Tryz.prog) Tryz.underlying54 Tryz.underlying2 zero119 i false
        rw [HQ.out] at h
        exact h
      go_wp2_with (first
        | (go_at_call 12; (with_reducible refine (HC.out M w1 (VB.refl VBW.out.bx (Below.refl _ _))).mono ?_); rintro e w3 ⟨y, M1, rfl, hy, hvb⟩
           have HVB := Lib.hid hvb
           obtain ⟨v', hv'⟩ := hvb.bx.box _ (hvb.sub _ HMEM.out)
           have g1 := hv'.cell 1 rfl
           have gf := hv'.free 1 (by simp)
           rcases hy.iface with rfl | ⟨u, v, rfl⟩ <;> clear hy hvb hv'))
      all_goals
        go_ret
        exact ⟨_, M1, rfl, by simp only [vOne]; exact ⟨bx, HVB.out.sub _ HMEM.out, rfl⟩, VBW.out.trans (HVB.out.fill (HVB.out.sub _ HMEM.out) _)⟩
    | none =>
      rw [hlk] at hlb
      have HQ := Lib.hid hlb
      have HN := Lib.hid hlk
      clear hlb hlk
      have HZ := Lib.hid (Blk.new w1 #[.int .i64 i, .nilIface] 86)
      have hza : Below w1.heap.size w1 (w1.alloc (.cells #[.int .i64 i, .nilIface] 86)) := (Below.refl _ _).alloc (Nat.le_refl _) _
      have HZA := Lib.hid hza
      replace x1 := x1
      have xa1 := cellAt hza x1
      clear hza
      have hlkp : (Instr.lookup 54 (.map (some mb)) (.int .i64 i) false).run Tryz.prog w1 = .ok (.pointer none) w1 := by
        have h := HM.out.lookup (P := Tryz.prog) Tryz.underlying54 Tryz.underlying2 zero119 i false
        rw [HQ.out] at h
        exact h
      obtain ⟨w2, hrun, hm2, hg2⟩ := (HM.out.alloc (.cells #[.int .i64 i, .nilIface] 86)).update (P := Tryz.prog) Tryz.underlying54 Tryz.underlying2 i (.pointer (some ⟨w1.heap.size, 0, none⟩))
      have HM2 := Lib.hid hm2
      have HG2 := Lib.hid hg2
      clear hm2 hg2
      go_upto_region 27 with (fail)
      clear hrun hlkp
      obtain ⟨bx, hbx⟩ : ∃ bx, bx = w1.heap.size := ⟨_, rfl⟩
      rw [← hbx] at HZ
      have hvx : VB M mb w1 (M ++ [(i, bx)]) w2 := by
        refine ⟨(VBW.out.bx.below HZA.out).more HN.out HZ.out (by rw [hbx]; exact Cl.new _ _ _) (by rw [hbx]; exact HM2.out) HG2.out, (Kept.of' HZA.out).grown HG2.out (fun b hb _ => by cases hb; exact .inl rfl), fun p hp => List.mem_append_left _ hp, fun p hp => ?_⟩
        rcases List.mem_append.1 hp with hp | hp
        · exact .inl hp
        · rw [List.mem_singleton] at hp; subst hp; exact .inr (by rw [hbx]; exact Nat.le_refl _)
      have HVX := Lib.hid hvx
      have hp2 : w2.heap[p]? = w1.heap[p]? := hvx.kept.block p (World.block_lt_of_cell? _ _ x4) HPN.out
      have hb2 : w2.heap[bb]? = w1.heap[bb]? := hvx.kept.block bb (World.block_lt_of_cell? _ _ e0) HBS.out
      have cp := fun (j : Nat) (v : Value) (h : w1.cell? ⟨p, j, none⟩ = some v) => (World.cell?_of_block (a := ⟨p, j, none⟩) hp2).trans h
      have cb := fun (j : Nat) (v : Value) (h : w1.cell? ⟨bb, j, none⟩ = some v) => (World.cell?_of_block (a := ⟨bb, j, none⟩) hb2).trans h
      replace x4 := cp _ _ x4
      replace e0 := cb _ _ e0
      replace e1 := cb _ _ e1
      replace e2 := cb _ _ e2
      replace e3 := cb _ _ e3
      replace e4 := cb _ _ e4
      rw [← hbx]
      have HBXE := Lib.hid hbx
      have HMEM := Lib.hid (show (i, bx) ∈ M ++ [(i, bx)] from List.mem_append_right _ (List.mem_singleton.2 rfl))
      clear hvx hp2 hb2 cp cb hbx x0 x1 x2 x3 xa1 HM2 HG2 HZ HZA
      go_wp2_with (go_at_call 12; (with_reducible refine (HC.out _ w2 HVX.out).mono ?_); rintro e w3 ⟨y, M1, rfl, hy, hvb⟩
                   have HVB := Lib.hid hvb
                   obtain ⟨v', hv'⟩ := hvb.bx.box _ (hvb.sub _ HMEM.out)
                   have g1 := hv'.cell 1 rfl
                   have gf := hv'.free 1 (by simp)
                   rcases hy.iface with rfl | ⟨u, v, rfl⟩ <;> clear hy hvb hv')
      all_goals
        go_ret
        exact ⟨_, M1, rfl, by simp only [vOne]; exact ⟨bx, HVB.out.sub _ HMEM.out, rfl⟩, VBW.out.trans (HVX.out.trans (HVB.out.fill (HVB.out.sub _ HMEM.out) _))⟩
  by_cases hk : k = 12
  · subst hk
    go_wp2_with fail
    go_ret
    exact ⟨_, M, rfl, by simp [vOne], VBW.out⟩
  by_cases hk : k = 13
  · subst hk
    go_wp2_with fail
    go_ret
    exact ⟨_, M, rfl, by simp [vOne], VBW.out⟩
  have g1 : (k == 1) = false := by simpa using (show ¬ k = 1 by assumption)
  have g2 : (k == 2) = false := by simpa using (show ¬ k = 2 by assumption)
  have g3 : (k == 3) = false := by simpa using (show ¬ k = 3 by assumption)
  have g4 : (k == 4) = false := by simpa using (show ¬ k = 4 by assumption)
  have g5 : (k == 5) = false := by simpa using (show ¬ k = 5 by assumption)
  have g6 : (k == 6) = false := by simpa using (show ¬ k = 6 by assumption)
  have g7 : (k == 7) = false := by simpa using (show ¬ k = 7 by assumption)
  have g8 : (k == 8) = false := by simpa using (show ¬ k = 8 by assumption)
  have g9 : (k == 9) = false := by simpa using (show ¬ k = 9 by assumption)
  have g10 : (k == 10) = false := by simpa using (show ¬ k = 10 by assumption)
  have g11 : (k == 11) = false := by simpa using (show ¬ k = 11 by assumption)
  have g12 : (k == 12) = false := by simpa using (show ¬ k = 12 by assumption)
  have g13 : (k == 13) = false := by simpa using (show ¬ k = 13 by assumption)
  have hk0 : k ≤ 0 ∨ 14 ≤ k := by omega
  have HK0 := Lib.hid hk0
  clear hk0
  go_wp2_with fail
  go_ret
  refine ⟨_, M, rfl, ?_, VBW.out⟩
  have hk0 := HK0.out
  show vOne M k i b t (ValF M kids) Value.nilIface
  unfold vOne
  iterate 13 rw [if_neg (by omega)]
theorem vbAll : ∀ f : Fo, f.All BXOK
  | .nil => trivial
  | .cons _ _ _ _ kids rest => ⟨vbN (vbAll kids), vbAll rest⟩
theorem vbG (kids : Fo) : BXOK kids := vbN (vbAll kids)
end Go.Proofs.YtofpdhkdnbnobaaGreatDoor
