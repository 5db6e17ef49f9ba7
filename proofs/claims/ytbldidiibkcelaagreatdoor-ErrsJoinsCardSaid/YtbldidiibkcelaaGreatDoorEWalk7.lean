/-
  The walk through an error of many (walk). Not a statement of the seat.
-/
import Derived.Test.YtbldidiibkcelaaGreatDoorEWalk6
namespace Go.Proofs.YtbldidiibkcelaaGreatDoor
open Go.RowKit

theorem m103u (v : Value) (w : World) : (method 389 103 v "Unwrap").run Tryz.prog w = .ok (153, v) w := by kernel_rfl
theorem rrightL_app (m : Bool) : ∀ (f : Eo) {g : Eo}, rrightL m (f.app g) = true → rrightL m g = true
  | .nil, _, h => h
  | .cons _ _ _ _ _ _ _ r, _, h => by
    rw [Eo.app, rrightL, Bool.and_eq_true] at h
    exact rrightL_app m r h.2
theorem ehi_app : ∀ (f : Eo) {g : Eo}, ehi g ≤ ehi (f.app g)
  | .nil, _ => Nat.le_refl _
  | .cons _ _ _ _ _ _ _ r, g => by
    have := ehi_app r (g := g)
    simp only [Eo.app, ehi]
    omega
def WmRel (S : Nat → Prop) (fb wb : Nat) (F : Value) (T : Et) (kids : Eo) (wv : Value) (a : Option Addr) (m c : Nat) (vs : List Value) (w : World) (res : Bool × Int) (t34 : Value) (wr : World) : Prop :=
  ∃ (dn rest : Eo), t34 = .int .i64 (dn.len : Nat) ∧ kids = dn.app rest ∧ EVs S (N1 fb) wr rest (vs.drop dn.len) ∧ Kept (N1 fb) w wr ∧ Blk wr fb [.bool false] ∧ Blk wr wb [wv] ∧ Blk wr (wb + 1) [F] ∧ Row 0 wr 1 a m c vs ∧ isL T rest = res

set_option maxRecDepth 100000 in
set_option maxHeartbeats 16000000 in
theorem wk4 {a0 : Addr} {S : Nat → Prop} {fb tb tt : Nat} {T : Et} {i c : Int} {t : Bs} {b : Dt} {cs : List Int} {kids : Eo} {v : Value} (hall : kids.All (WKOK a0 S fb tb tt T)) (hrr : rrightL true kids = true) (hm : kids.len ≤ 4096) : WK1 a0 S fb tb tt T ⟨4, i, c, t, b, cs, kids⟩ v := by
  intro wa wn wc ws w hT hF hv hRow hwf hdeep
  show Calls Tryz.prog 52 _ w (ISP a0 (is1 T 4 i c t b cs kids) fb w)
  have hd9 : wn + ehi kids ≤ 1000 := by
    rcases hdeep with h | h
    · exact h
    · exact absurd (show (4 : Int) = 0 from h) (by decide)
  obtain ⟨h1, h2, hB⟩ := ww_facts w wa wn wc (F53 tb fb tt)
  have hSf : ∀ x, S x → ¬ N1 fb x := fun x hx e => (hT.2.2.2.2.2.2 x hx).2 e
  have hN := isHead_nrm T 4 i c t b cs
  have HC := Lib.hid (is53 (e := ⟨4, i, c, t, b, cs, kids⟩) (hT.below hB) (hv.below hB hSf) rfl (hF.below hB) (by show (1 : Int) ≤ 4; omega) (by show (4 : Int) ≤ 10; omega) (fun e => by cases e) (fun e => by cases e) (.slice wa wn wc))
  have his := is1_pos (T := T) (k := 4) (i := i) (c := c) (t := t) (b := b) (cs := cs) (kids := kids) (by omega)
  generalize is1 T 4 i c t b cs kids = res at *
  dsimp only at HC
  generalize isHead T 4 i c t b cs = h at *
  have HIS := Lib.hid his
  have HB := Lib.hid hB
  have HH := Lib.hid (And.intro h1 (And.intro h2 hF.1))
  have hmf : ∀ (fn : Fn) (first cap : Array Value) (w : World), (Instr.makeFunc fn first cap).run Tryz.prog w = .ok (.func fn first cap) w := fun _ _ _ _ => rfl
  have x0 := h1.cell 0 rfl
  have y0 := h2.cell 0 rfl
  have hta := fun v w => ta103_4 v w
  have htb := fun v w => ta103_5 v w
  have hmu := fun v w => m103u v w
  obtain ⟨bl, bn, bc, cl, cn, cc, l, n, cap, q, p, hve, hE, _, hpt⟩ := hv
  have hve2 : v = .iface 103 (.pointer (some ⟨p, 0, none⟩)) := hve
  subst hve2
  have hP := hpt (.inr (.inr (.inl rfl)))
  have hnl : kids.len = n := hE.2.2.len
  have HCU := Lib.hid (fun (wx : World) (hx : Kept (N1 fb) w wx) => unw153 (S := S) (N := N1 fb) (kids := kids) (hP.1.keep hx (fun e => hP.2 e)) ((hE.same (fun x hx' hl => hx.block x hl (fun e => hSf x hx' e)) (fun x hx' _ => hx')).2.2) (fun x hx' => ⟨Nat.lt_of_lt_of_le (hT.2.2.2.2.2.2 x hx').1 hx.size, hSf x hx'⟩) (fun x e => by unfold N1 at e; rw [e]; exact Nat.lt_of_lt_of_le hF.1 hx.size) (by omega))
  have HCN := Lib.hid (fun (k2 i2 c2 : Int) (t2 : Bs) (b2 : Dt) (cs2 : List Int) (ks : Eo) (v2 : Value) (wx : World) (hok : WK1 a0 S fb tb tt T ⟨k2, i2, c2, t2, b2, cs2, ks⟩ v2) (hx : Kept (N1 fb) w wx) (hf : Blk wx fb [.bool false]) (hvv : EVAt S (N1 fb) wx ⟨k2, i2, c2, t2, b2, cs2, ks⟩ v2) (hw : Blk wx w.heap.size [.slice wa wn wc]) (hd : Blk wx (w.heap.size + 1) [F53 tb fb tt]) (hb : wn + 1 + ehi ks ≤ 1000) (j : Int) =>
    next83g hok (hT.keep hx) hf hvv (hRow.keep hx (fun x hx' e => hwf x hx' e)) ⟨by omega, .inl hb⟩ hw hd (by have := hF.1; omega) (by have := hF.1; omega) j)
  have HALL := Lib.hid (And.intro hall (And.intro hrr (And.intro hm hd9)))
  have HSF := Lib.hid hSf
  have HFL := Lib.hid hF.1
  clear hT hF hRow hwf hdeep hd9 hSf his h1 h2 hB hve hE hpt hP hall hrr hm hnl
  generalize hFF : F53 tb fb tt = FF at *
  unfold F53 at hFF
  subst hFF
  go_enter Tryz.func52, Tryz.ntmps52
  go_upto_region 1 with (fail)
  change Code.wp _ _ _ _ (ww w wa wn wc (.func (Fn.func 53) #[] #[.pointer (some ⟨tb, 0, none⟩), .pointer (some ⟨fb, 0, none⟩), .pointer (some ⟨tt, 0, none⟩)]))
  generalize ww w wa wn wc (.func (Fn.func 53) #[] #[.pointer (some ⟨tb, 0, none⟩), .pointer (some ⟨fb, 0, none⟩), .pointer (some ⟨tt, 0, none⟩)]) = w1 at *
  rcases hN with rfl | rfl | rfl
  · go_wp2_with (go_at_call 53; (with_reducible refine HC.out.mono ?_); intro e2 w2 hI; obtain ⟨rfl, hK2, hF2⟩ := ISP.t hI; have HK2 := Lib.hid ((Kept.of' (N := N1 fb) HB.out).tail hK2 (fun _ _ h => h)); have HF2 := Lib.hid hF2; have HW2 := Lib.hid (HH.out.1.keep hK2 (fun e => by have h1 := HH.out.2.2; unfold N1 at e; omega)); have HD2 := Lib.hid (HH.out.2.1.keep hK2 (fun e => by have h1 := HH.out.2.2; unfold N1 at e; omega)); clear hK2 hF2 hI)
    go_ret
    exact ⟨HK2.out, .inl ⟨by rw [HIS.out]; rfl, rfl, HF2.out⟩⟩
  rotate_left
  · go_wp2_with (go_at_call 53; (with_reducible refine HC.out.mono ?_); intro e2 w2 hI; obtain ⟨rfl, hK2⟩ := ISP.p hI; have HK2 := Lib.hid ((Kept.of' (N := N1 fb) HB.out).tail hK2 (fun _ _ h => h)); clear hK2 hI)
    exact ⟨rfl, HK2.out, .inr (.inr ⟨by rw [HIS.out]; rfl, rfl⟩)⟩
  · go_upto_region 12 with (go_at_call 53; (with_reducible refine HC.out.mono ?_); intro e2 w2 hI; obtain ⟨rfl, hK2, hF2⟩ := ISP.f hI; have HK2 := Lib.hid ((Kept.of' (N := N1 fb) HB.out).tail hK2 (fun _ _ h => h)); have HF2 := Lib.hid hF2; have HW2 := Lib.hid (HH.out.1.keep hK2 (fun e => by have h1 := HH.out.2.2; unfold N1 at e; omega)); have HD2 := Lib.hid (HH.out.2.1.keep hK2 (fun e => by have h1 := HH.out.2.2; unfold N1 at e; omega)); clear hK2 hF2 hI)
    have HR0 := Lib.hid (show isL T kids = res by rw [HIS.out]; rfl)
    generalize (Value.func (Fn.func 53) #[] #[.pointer (some ⟨tb, 0, none⟩), .pointer (some ⟨fb, 0, none⟩), .pointer (some ⟨tt, 0, none⟩)]) = FV at *
    go_upto_block 1 with (go_at_call 153; (with_reducible refine (HCU.out _ HK2.out).mono ?_); rintro e3 w3 ⟨a3, c3, vs, rfl, hR3, hV3, hB3⟩; have HK3 := Lib.hid (HK2.out.calm hB3); have HF3 := Lib.hid (HF2.out.below hB3); have HW3 := Lib.hid (HW2.out.below hB3); have HD3 := Lib.hid (HD2.out.below hB3); have HV3 := Lib.hid hV3; have HR3 := Lib.hid (hR3.mono (Nat.zero_le _)); have HA3 := Lib.hid (show ∀ x, blockOf a3 = some x → x ≠ fb from fun x hx e => by have h9 := (hR3.lt x hx).1; have h8 := HF2.out.1; omega); clear hR3 hV3 hB3)
    have HM := Lib.hid (show kids.len ≤ 4096 from HALL.out.2.2.1)
    go_wp2_with fail
    go_loopw [34] (fun t34 wr => WmRel S fb w.heap.size FV T kids (.slice wa wn wc) a3 kids.len c3 vs w res t34 wr) (fun t34 _ => kids.len - (intOf t34).toNat)
    case atStart => exact ⟨.nil, kids, rfl, rfl, HV3.out, HK3.out, HF3.out, HW3.out, HD3.out, HR3.out, HR0.out⟩
    case round =>
      obtain ⟨dn, rest, rfl, hk, hEV, hKr, hFr, hWr, hDr, hRr, hq⟩ := hrel
      have hlen : kids.len = dn.len + rest.len := by rw [hk, Eo.len_app]
      cases rest with
      | nil =>
        have hj : ¬ (dn.len : Int) < (kids.len : Int) := by have : Eo.len .nil = 0 := rfl; omega
        have HQ := Lib.hid hq
        have HKr := Lib.hid hKr
        have HFr := Lib.hid hFr
        clear hk hEV hKr hFr hWr hDr hRr hq hlen
        generalize kids.len = m at *
        go_wp2_with fail
        go_ret
        exact ⟨HKr.out, .inr (.inl ⟨by rw [← HQ.out]; rfl, rfl, HFr.out⟩)⟩
      | cons k2 i2 c2 t2 b2 cs2 ks r2 =>
        have hlr : (Eo.cons k2 i2 c2 t2 b2 cs2 ks r2).len = r2.len + 1 := rfl
        have hjn : dn.len < kids.len := by omega
        have hj : (dn.len : Int) < (kids.len : Int) := by omega
        obtain ⟨v2, vs2, hvs, hv2, hEV2⟩ := hEV
        have hget : vs[dn.len]? = some v2 := by
          have h := congrArg (fun l => l[0]?) hvs
          simpa [List.getElem?_drop] using h
        have hd2 : vs.drop (dn.len + 1) = vs2 := by
          rw [← List.drop_drop, hvs]
          rfl
        obtain ⟨bb, off, rfl, hltb, hcell⟩ : ∃ b off, a3 = some ⟨b, off, none⟩ ∧ b < wr.heap.size ∧ wr.cell? ⟨b, off + dn.len, none⟩ = some v2 := by
          obtain ⟨b, off, ha, hb, hc⟩ := hRr.rd.at (k := dn.len) hjn
          have h := hc 0 (by omega)
          exact ⟨b, off, ha, hb, by rw [Nat.mul_one, Nat.add_zero] at h; rw [h]; exact hget⟩
        have hOK : WK1 a0 S fb tb tt T ⟨k2, i2, c2, t2, b2, cs2, ks⟩ v2 := by
          have hal := HALL.out.1
          rw [hk] at hal
          refine (Eo.All.split dn hal).1 k2 i2 c2 t2 b2 cs2 v2 ?_
          have h := HALL.out.2.1
          rw [hk] at h
          have h3 := rrightL_app true dn h
          rw [rrightL, Bool.and_eq_true, Bool.and_eq_true] at h3
          exact h3.1.2
        have hbd : wn + 1 + ehi ks ≤ 1000 := by
          have h := HALL.out.2.2.2
          rw [hk] at h
          have h4 := ehi_app dn (g := .cons k2 i2 c2 t2 b2 cs2 ks r2)
          simp only [ehi] at h4
          omega
        have HC2 := Lib.hid (HCN.out k2 i2 c2 t2 b2 cs2 ks v2 wr hOK hKr hFr hv2 hWr hDr hbd (dn.len : Nat))
        rw [isL_cons] at hq
        have hN2 := is1_nrm T k2 i2 c2 t2 b2 cs2 ks
        generalize is1 T k2 i2 c2 t2 b2 cs2 ks = r at *
        have HRR := Lib.hid (And.intro hKr (And.intro hWr (And.intro hDr (And.intro hRr hEV2))))
        have HQ := Lib.hid hq
        have HKK := Lib.hid hk
        have HD2' := Lib.hid hd2
        have HJ := Lib.hid hjn
        have x9 := hWr.cell 0 rfl
        have hsz := HM.out
        clear hEV2 hKr hFr hWr hDr hRr hq hk hlen hlr hvs hv2 hget hd2 hOK hbd hltb
        generalize hjj : dn.len = j at *
        have HJJ := Lib.hid hjj
        clear hjj
        rcases hN2 with rfl | rfl | rfl
        · go_wp2_with (go_at_call 83; (with_reducible refine HC2.out.mono ?_); intro e4 w4 hI; obtain ⟨rfl, hK4, hF4⟩ := ISP.t hI; have HK4 := Lib.hid hK4; have HF4 := Lib.hid hF4; clear hI hK4 hF4)
          go_ret
          exact ⟨HRR.out.1.tail HK4.out (fun _ _ h => h), .inl ⟨by rw [← HQ.out]; rfl, rfl, HF4.out⟩⟩
        · go_wp2_with (go_at_call 83; (with_reducible refine HC2.out.mono ?_); intro e4 w4 hI; obtain ⟨rfl, hK4, hF4⟩ := ISP.f hI; have HK4 := Lib.hid hK4; have HF4 := Lib.hid hF4; clear hI hK4 hF4)
          go_roundw
          case rel =>
            have hl2 : (dn.app (.cons k2 i2 c2 t2 b2 cs2 ks .nil)).len = j + 1 := by rw [Eo.len_app, HJJ.out, show (Eo.cons k2 i2 c2 t2 b2 cs2 ks .nil).len = 1 from rfl]
            refine ⟨dn.app (.cons k2 i2 c2 t2 b2 cs2 ks .nil), r2, ?_, ?_, ?_, HRR.out.1.tail HK4.out (fun _ _ h => h), HF4.out, HRR.out.2.1.keep HK4.out (fun e => by have := HFL.out; unfold N1 at e; omega), HRR.out.2.2.1.keep HK4.out (fun e => by have := HFL.out; unfold N1 at e; omega), HRR.out.2.2.2.1.keep HK4.out (fun x hx e => HA3.out x hx e), by rw [← HQ.out]; rfl⟩
            · rw [hl2]; go_num
            · rw [Eo.app_assoc]; exact HKK.out
            · rw [hl2, HD2'.out]; exact EVs.map (fun e u hu => hu.keep HK4.out (fun _ _ h => h) HSF.out) _ HRR.out.2.2.2.2
          case measure => simp [intOf]; have := HJ.out; omega
        · go_wp2_with (go_at_call 83; (with_reducible refine HC2.out.mono ?_); intro e4 w4 hI; obtain ⟨rfl, hK4⟩ := ISP.p hI; have HK4 := Lib.hid hK4; clear hI hK4)
          exact ⟨rfl, HRR.out.1.tail HK4.out (fun _ _ h => h), .inr (.inr ⟨by rw [← HQ.out]; rfl, rfl⟩)⟩
end Go.Proofs.YtbldidiibkcelaaGreatDoor

/-
  The walk through any error value. Not a statement of the seat.
-/
namespace Go.Proofs.YtbldidiibkcelaaGreatDoor
open Go.RowKit

theorem len0 {f : Eo} (h : f.len = 0) : f = .nil := by
  cases f with
  | nil => rfl
  | cons k i c t b cs ks r => rw [Eo.len] at h; omega
theorem len1 {f : Eo} (h : f.len = 1) : ∃ k i c t b cs ks, f = .cons k i c t b cs ks .nil := by
  cases f with
  | nil => rw [Eo.len] at h; omega
  | cons k i c t b cs ks r =>
    rw [Eo.len] at h
    obtain rfl := len0 (show r.len = 0 by omega)
    exact ⟨k, i, c, t, b, cs, ks, rfl⟩
theorem fit_num {k i c : Int} {t : Bs} {b : Dt} {cn n : Nat} (h : fitsE k i c t b cn n = true) : (0 ≤ k ∧ k ≤ 10) ∧ ((fldM k).least ≤ (n : Int) ∧ (n : Int) ≤ (fldM k).most) ∧ (k = 5 → okB b) ∧ (k = 7 → i = 0) := by
  unfold fitsE at h
  simp only [Bool.and_eq_true] at h
  obtain ⟨⟨h1, h2⟩, h3, h4⟩ := h
  refine ⟨by unfold fldOk at h1; simpa using h1, ?_, fun e => ?_, fun e => ?_⟩
  · unfold fitB at h3
    simp only [Bool.and_eq_true, decide_eq_true_eq] at h3
    omega
  · subst e
    exact okB_of h4
  · subst e
    unfold fitA at h2
    simp [fldM] at h2
    omega
theorem walkN {a0 : Addr} {S : Nat → Prop} {fb tb tt : Nat} {T : Et} {kids : Eo} (hall : kids.All (WKOK a0 S fb tb tt T)) : WKOK a0 S fb tb tt T kids := by
  intro k i c t b cs v hr
  unfold rright1 at hr
  rw [Bool.and_eq_true] at hr
  obtain ⟨hfit, hrr⟩ := hr
  obtain ⟨hk, hn, h5, h7⟩ := fit_num hfit
  by_cases h0 : k = 0
  · subst h0
    intro wa wn wc ws w hT hF hv hRow hwf hdeep
    have hv0 : v = .nilIface := by
      obtain ⟨bl, bn, bc, cl, cn, cc, l, n, cap, q, p, hve, _⟩ := hv
      exact hve
    subst hv0
    exact walk0 wa wn wc ws w hT hF hv hRow hwf hdeep
  have hchild : ∀ {k2 i2 c2 : Int} {t2 : Bs} {b2 : Dt} {cs2 : List Int} {ks : Eo}, kids = .cons k2 i2 c2 t2 b2 cs2 ks .nil → ∀ v2, WK1 a0 S fb tb tt T ⟨k2, i2, c2, t2, b2, cs2, ks⟩ v2 := by
    intro k2 i2 c2 t2 b2 cs2 ks e v2
    subst e
    rw [rrightL, Bool.and_eq_true, Bool.and_eq_true] at hrr
    exact hall.1 k2 i2 c2 t2 b2 cs2 v2 hrr.1.2
  rcases kinds_cases k with rfl | rfl | rfl | rfl | rfl | rfl | rfl | rfl | rfl | rfl | ⟨z1, z2, z3, z4, z5, z6, z7, z8, z9, z10⟩
  · obtain rfl := len0 (show kids.len = 0 by have h := hn.2; simp [fldM] at h; omega)
    exact wk1
  · obtain rfl := len0 (show kids.len = 0 by have h := hn.2; simp [fldM] at h; omega)
    exact wk2
  · obtain ⟨k2, i2, c2, t2, b2, cs2, ks, e⟩ := len1 (show kids.len = 1 by have h := hn; simp [fldM] at h; omega)
    have hc := hchild e
    subst e
    exact wk3 hc
  · exact wk4 hall hrr (by have h := hn.2; simp [fldM] at h; omega)
  · obtain rfl := len0 (show kids.len = 0 by have h := hn.2; simp [fldM] at h; omega)
    exact wk5 (h5 rfl)
  · obtain rfl := len0 (show kids.len = 0 by have h := hn.2; simp [fldM] at h; omega)
    exact wk6
  · obtain rfl := len0 (show kids.len = 0 by have h := hn.2; simp [fldM] at h; omega)
    exact wk7 (h7 rfl)
  · by_cases hl : kids.len = 0
    · obtain rfl := len0 hl
      exact wk8n
    · obtain ⟨k2, i2, c2, t2, b2, cs2, ks, e⟩ := len1 (show kids.len = 1 by have h := hn.2; simp [fldM] at h; omega)
      have hc := hchild e
      subst e
      exact wk8 hc
  · obtain rfl := len0 (show kids.len = 0 by have h := hn.2; simp [fldM] at h; omega)
    exact wk9
  · obtain rfl := len0 (show kids.len = 0 by have h := hn.2; simp [fldM] at h; omega)
    exact wk10
  · omega
theorem walkAll {a0 : Addr} {S : Nat → Prop} {fb tb tt : Nat} {T : Et} : ∀ f : Eo, f.All (WKOK a0 S fb tb tt T)
  | .nil => trivial
  | .cons _ _ _ _ _ _ kids rest => ⟨walkN (walkAll kids), walkAll rest⟩
theorem walkG {a0 : Addr} {S : Nat → Prop} {fb tb tt : Nat} {T : Et} (kids : Eo) : WKOK a0 S fb tb tt T kids := walkN (walkAll kids)
end Go.Proofs.YtbldidiibkcelaaGreatDoor

/-
  Is's outer closure at any error (walk). Not a statement of the seat.
-/
namespace Go.Proofs.YtbldidiibkcelaaGreatDoor
open Go.RowKit

/-- the target of Is, ahead of the found one's cell -/
def TG0 (a0 : Addr) (S : Nat → Prop) (tb tt : Nat) (T : Et) (w : World) : Prop :=
  (∃ bl' bn' bc' cl' cn' cc' l' n' cap' q' p', FoAt S w T.b.l bl' bn' bc' ∧ Blk w tb (V11 T.k T.i T.c T.t T.b bl' bn' bc' cl' cn' cc' l' n' cap') ∧ Blk w tt [vErr T.k T.c T.t cl' cn' cc' q' p']) ∧
    LB a0 w ∧ 0 < w.heap.size ∧ (T.k = 5 → okB T.b) ∧ (1 ≤ T.k ∧ T.k ≤ 10) ∧ (∀ x, S x → x < w.heap.size)
theorem TG0.below {a0 : Addr} {S : Nat → Prop} {tb tt : Nat} {T : Et} {w w' : World} (h : TG0 a0 S tb tt T w) (hB : Below w.heap.size w w') : TG0 a0 S tb tt T w' := by
  obtain ⟨⟨bl', bn', bc', cl', cn', cc', l', n', cap', q', p', h1, h2, h3⟩, h4, h5, h7, h8, h9⟩ := h
  exact ⟨⟨bl', bn', bc', cl', cn', cc', l', n', cap', q', p', h1.same (fun x _ hl => hB.block x hl) (fun x hx _ => hx), h2.below hB, h3.below hB⟩, h4.below hB, Nat.lt_of_lt_of_le h5 hB.size, h7, h8, fun x hx => Nat.lt_of_lt_of_le (h9 x hx) hB.size⟩
theorem TG0.tg {a0 : Addr} {S : Nat → Prop} {tb tt : Nat} {T : Et} {w : World} (h : TG0 a0 S tb tt T w) : TG a0 S w.heap.size tb tt T w := by
  obtain ⟨⟨bl', bn', bc', cl', cn', cc', l', n', cap', q', p', h1, h2, h3⟩, h4, h5, h7, h8, h9⟩ := h
  exact ⟨⟨bl', bn', bc', cl', cn', cc', l', n', cap', q', p', h1, h2, h3⟩, h4, h5, ⟨by have := h2.1; omega, by have := h3.1; omega, by omega⟩, h7, h8, fun x hx => ⟨h9 x hx, by have := h9 x hx; omega⟩⟩
set_option maxRecDepth 100000 in
set_option maxHeartbeats 8000000 in
theorem is51g {a0 : Addr} {S : Nat → Prop} {vb tb tt : Nat} {T : Et} {k i c : Int} {t : Bs} {b : Dt} {cs : List Int} {kids : Eo} {v : Value} {w : World} (hV : Blk w vb [v]) (hT : TG0 a0 S tb tt T w) (hv : EVAt S (fun _ => False) w ⟨k, i, c, t, b, cs, kids⟩ v)
    (hr : rright1 k i c t b cs kids = true) (hd : ehi kids ≤ 1000) :
    Calls Tryz.prog 51 #[.pointer (some ⟨vb, 0, none⟩), .pointer (some ⟨tb, 0, none⟩), .pointer (some ⟨tt, 0, none⟩)] w (EQE a0 (is1 T k i c t b cs kids) w) := by
  have hB : Below w.heap.size w (w.alloc (.cells #[.bool false] 4)) := (Below.refl _ w).alloc (Nat.le_refl _) _
  have hF := Blk.new w #[.bool false] 4
  have hSf : ∀ x, S x → ¬ N1 w.heap.size x := fun x hx e => by have := hT.2.2.2.2.2 x hx; unfold N1 at e; omega
  have hv2 : EVAt S (N1 w.heap.size) w ⟨k, i, c, t, b, cs, kids⟩ v := hv.mono (fun x hx e => by unfold N1 at e; omega)
  have HC := Lib.hid (walkG (a0 := a0) (S := S) (fb := w.heap.size) (tb := tb) (tt := tt) (T := T) kids k i c t b cs v hr none 0 0 [] (w.alloc (.cells #[.bool false] 4)) (hT.tg.below hB) hF (hv2.below hB hSf) (Row.nil 0 _ 1) (fun x hx => by cases hx) (.inl (by show 0 + ehi kids ≤ 1000; omega)))
  have hN := is1_nrm T k i c t b cs kids
  dsimp only at HC
  generalize is1 T k i c t b cs kids = r at *
  have hmf : ∀ (fn : Fn) (first cap : Array Value) (w : World), (Instr.makeFunc fn first cap).run Tryz.prog w = .ok (.func fn first cap) w := fun _ _ _ _ => rfl
  have hvv := hV.below hB
  have v0 := hvv.cell 0 rfl
  have f0 := hF.cell 0 rfl
  have f1 := hF.free 0 (by simp)
  have HF := Lib.hid hF
  have HB := Lib.hid hB
  clear hV hT hv hv2 hvv hF hB hSf hr hd
  unfold F53 at HC
  go_enter Tryz.func51, Tryz.ntmps51
  go_upto_region 2 with (fail)
  generalize w.alloc (.cells #[.bool false] 4) = w1 at *
  rcases hN with rfl | rfl | rfl
  · go_wp2_with (go_at_call 52; (with_reducible refine HC.out.mono ?_); intro e3 w3 hI; obtain ⟨rfl, hK3, hF3⟩ := ISP.t hI; have HK3 := Lib.hid hK3; have g0 := hF3.cell 0 rfl; clear hI hK3 hF3 f0 f1 v0)
    go_ret
    exact ⟨HB.out.trans (HK3.out.below HB.out.size (fun x hx e => by unfold N1 at e; omega)), .inl ⟨rfl, rfl⟩⟩
  · go_wp2_with (go_at_call 52; (with_reducible refine HC.out.mono ?_); intro e3 w3 hI; obtain ⟨rfl, hK3, hF3⟩ := ISP.f hI; have HK3 := Lib.hid hK3; have g0 := hF3.cell 0 rfl; clear hI hK3 hF3 f0 f1 v0)
    go_ret
    exact ⟨HB.out.trans (HK3.out.below HB.out.size (fun x hx e => by unfold N1 at e; omega)), .inl ⟨rfl, rfl⟩⟩
  · go_wp2_with (go_at_call 52; (with_reducible refine HC.out.mono ?_); intro e3 w3 hI; obtain ⟨rfl, hK3⟩ := ISP.p hI; have HK3 := Lib.hid hK3; clear hI hK3 f0 f1 v0)
    exact ⟨rfl, HB.out.trans (HK3.out.below HB.out.size (fun x hx e => by unfold N1 at e; omega)), .inr ⟨rfl, rfl⟩⟩
/-- compared, at Is's closure -/
theorem comp51g {a0 : Addr} {S : Nat → Prop} {vb tb tt : Nat} {T : Et} {k i c : Int} {t : Bs} {b : Dt} {cs : List Int} {kids : Eo} {v : Value} {w : World} (hV : Blk w vb [v]) (hT : TG0 a0 S tb tt T w) (hv : EVAt S (fun _ => False) w ⟨k, i, c, t, b, cs, kids⟩ v)
    (hr : rright1 k i c t b cs kids = true) (hd : ehi kids ≤ 1000) :
    Calls Tryz.prog 41 #[F51 vb tb tt] w (fun e w' => e = .returned (.tuple #[.bool (is1 T k i c t b cs kids).1, .int .i64 (is1 T k i c t b cs kids).2]) ∧ Below w.heap.size w w') :=
  comp51 (is1_nrm T k i c t b cs kids) hT.2.1 (fun _ hx => is51g (hV.below hx) (hT.below hx) (hv.below hx (fun _ _ h => h)) hr hd)
end Go.Proofs.YtbldidiibkcelaaGreatDoor
