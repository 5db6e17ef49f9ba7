/-
  Error of an error of many; of any error (walks). Not a statement of the seat.
-/
import Derived.Test.YtbldidiibkcelaaGreatDoorTETxW
import Derived.Test.YtbldidiibkcelaaGreatDoorTEAs6
namespace Go.Proofs.YtbldidiibkcelaaGreatDoor
open Go.RowKit

def MnRel (S : Nat → Prop) (kids : Eo) (w : World) (vs : List Value) (t9 t3 : Value) (wr : World) : Prop :=
  ∃ (dn rest : Eo) (L : List Bs) (a3 : Option Addr) (c3 : Nat), t9 = .int .i64 (dn.len : Nat) ∧ kids = dn.app rest ∧ txL dn = some L ∧ t3 = .slice a3 L.length c3 ∧ Row w.heap.size wr 1 a3 L.length c3 (L.map S1) ∧ L.length ≤ dn.len ∧ EVs S (fun _ => False) w rest (vs.drop dn.len) ∧ Below w.heap.size w wr
set_option maxRecDepth 100000 in
set_option maxHeartbeats 16000000 in
theorem err152 {S : Nat → Prop} {p : Nat} {w : World} {k i c : Int} {t : Bs} {b : Dt} {bl : Option Addr} {bn bc : Nat} {cl : Option Addr} {cn cc : Nat} {l : Option Addr} {n cap : Nat} {kids : Eo} (hW : Blk w p (V11 k i c t b bl bn bc cl cn cc l n cap)) (hF : EoAt S w kids l n cap) (hS : ∀ x, S x → x < w.heap.size) (hn : n ≤ 4096) (hT : TW kids ≤ 140737488355328) (hten : ∀ (dn : Eo) k2 i2 c2 t2 b2 cs2 ks r2, kids = dn.app (.cons k2 i2 c2 t2 b2 cs2 ks r2) → k2 = 0 ∨ (1 ≤ k2 ∧ k2 ≤ 10))
    (hK : ∀ (dn : Eo) k2 i2 c2 t2 b2 cs2 ks r2, kids = dn.app (.cons k2 i2 c2 t2 b2 cs2 ks r2) → k2 ≠ 0 → ∀ wx v, Below w.heap.size w wx → EVAt S (fun _ => False) wx ⟨k2, i2, c2, t2, b2, cs2, ks⟩ v → ∃ K rv, MethE v K rv ∧ ∀ wy, Below wx.heap.size wx wy → Calls Tryz.prog K #[rv] wy (TXP (tx1 ⟨k2, i2, c2, t2, b2, cs2, ks⟩) wy)) :
    Calls Tryz.prog 152 #[.pointer (some ⟨p, 0, none⟩)] w (TXP ((txL kids).map (fun L => Go.Lib.join L [10])) w) := by
  obtain ⟨i0, hi, hy0, hy1, hy2⟩ := info9
  have hnl : kids.len = n := hF.len
  have HU := Lib.hid (unw153 (S := S) (N := fun _ => False) hW hF (fun x hx => ⟨hS x hx, fun h => h⟩) (fun _ h => h.elim) hn)
  have HH := Lib.hid (And.intro hT (And.intro hten (And.intro hK (show kids.len ≤ 4096 by omega))))
  clear hW hF hS hT hten hK hnl hn
  go_enter Tryz.func152, Tryz.ntmps152
  go_upto_block 0 with (go_at_call 153; (with_reducible refine HU.out.mono ?_); rintro e1 w1 ⟨a, ca, vs, rfl, hR1, hV1, hB1⟩; have HB1 := Lib.hid hB1; have HR1 := Lib.hid hR1; have HV1 := Lib.hid hV1; clear hR1 hV1 hB1)
  have HM := Lib.hid HH.out.2.2.2
  go_wp2_with fail
  go_loopw [9, 3] (fun t9 t3 wr => MnRel S kids w1 vs t9 t3 wr) (fun t9 _ _ => kids.len - (intOf t9).toNat)
  case atStart => exact ⟨.nil, kids, [], none, 0, rfl, rfl, rfl, rfl, Row.nil _ _ _, Nat.le_refl _, HV1.out, Below.refl _ _⟩
  case round =>
    obtain ⟨dn, rest, L, a3, c3, rfl, hk, hL, rfl, hRow, hLl, hEV, hBw⟩ := hrel
    have HBw := Lib.hid hBw
    have hlen : kids.len = dn.len + rest.len := by rw [hk, Eo.len_app]
    have hba : ∀ q, blockOf a3 = some q → w1.heap.size ≤ q := fun q hq => (hRow.lt q hq).1
    cases rest with
    | nil =>
      have hj : ¬ (dn.len : Int) < (kids.len : Int) := by have : Eo.len .nil = 0 := rfl; omega
      rw [Eo.app_nil] at hk
      have hjl : (Go.Lib.join L [10]).length ≤ 140737488355328 := by
        have h1 := join_le L 10
        have h2 := txL_len dn L hL
        have h3 := HH.out.1
        rw [hk] at h3
        omega
      have HC := Lib.hid (join155 (sep := [10]) hRow.rd hjl (by have := HM.out; omega))
      have HFN := Lib.hid (show txL kids = some L by rw [hk]; exact hL)
      unfold S1 at HC
      clear hk hEV hBw hRow hlen hjl hLl hba hL
      generalize kids.len = m at *
      go_wp2_with (go_at_call 155; (with_reducible refine HC.out.mono ?_); rintro e9 w9 ⟨rfl, hb⟩; have HB9 := Lib.hid hb; clear hb)
      go_ret
      rw [HFN.out]
      exact ⟨rfl, bel_tr HB1.out (bel_tr HBw.out HB9.out)⟩
    | cons k2 i2 c2 t2 b2 cs2 ks2 r2 =>
      have hlr : (Eo.cons k2 i2 c2 t2 b2 cs2 ks2 r2).len = r2.len + 1 := rfl
      have hjn : dn.len < kids.len := by omega
      have hj : (dn.len : Int) < (kids.len : Int) := by omega
      obtain ⟨v2, vs2, hvs, hv2, hEV2⟩ := hEV
      have hget : vs[dn.len]? = some v2 := by
        have h := congrArg (fun l => l[0]?) hvs
        simpa [List.getElem?_drop] using h
      have hd2 : vs.drop (dn.len + 1) = vs2 := by
        rw [← List.drop_drop, hvs]
        rfl
      have hRr := HR1.out.below hBw
      obtain ⟨bb, off, rfl, hltb, hcell⟩ : ∃ b off, a = some ⟨b, off, none⟩ ∧ b < wr.heap.size ∧ wr.cell? ⟨b, off + dn.len, none⟩ = some v2 := by
        obtain ⟨b, off, ha, hb, hc⟩ := hRr.rd.at (k := dn.len) hjn
        have h := hc 0 (by omega)
        exact ⟨b, off, ha, hb, by rw [Nat.mul_one, Nat.add_zero] at h; rw [h]; exact hget⟩
      have hten := HH.out.2.1 dn k2 i2 c2 t2 b2 cs2 ks2 r2 hk
      have hB0r : Below w.heap.size w wr := bel_tr HB1.out hBw
      have hsm : L.length + 1 ≤ 5000 := by have := HM.out; omega
      have HREL := Lib.hid (show ∀ (wx : World) (a4 : Option Addr) (c4 : Nat) (L4 : List Bs), txL (dn.app (.cons k2 i2 c2 t2 b2 cs2 ks2 .nil)) = some L4 → Below w1.heap.size w1 wx → Row w1.heap.size wx 1 a4 L4.length c4 (L4.map S1) → L4.length ≤ dn.len + 1 → MnRel S kids w1 vs (.int .i64 ((dn.len + 1 : Nat) : Int)) (.slice a4 L4.length c4) wx from fun wx a4 c4 L4 h1 h2 h3 h4 =>
        ⟨dn.app (.cons k2 i2 c2 t2 b2 cs2 ks2 .nil), r2, L4, a4, c4, by rw [Eo.len_app, show (Eo.cons k2 i2 c2 t2 b2 cs2 ks2 .nil).len = 1 from rfl], by rw [Eo.app_assoc]; exact hk, h1, rfl, h3, by rw [Eo.len_app, show (Eo.cons k2 i2 c2 t2 b2 cs2 ks2 .nil).len = 1 from rfl]; exact h4, by rw [Eo.len_app, show (Eo.cons k2 i2 c2 t2 b2 cs2 ks2 .nil).len = 1 from rfl, hd2]; exact hEV2, h2⟩)
      have happ : txL (dn.app (.cons k2 i2 c2 t2 b2 cs2 ks2 .nil)) = (txL (.cons k2 i2 c2 t2 b2 cs2 ks2 .nil)).map (L ++ ·) := by rw [txL_app, hL]; rfl
      have HAPP := Lib.hid happ
      have hfull : txL kids = (txL (.cons k2 i2 c2 t2 b2 cs2 ks2 r2)).map (L ++ ·) := by rw [hk, txL_app, hL]; rfl
      have HFULL := Lib.hid hfull
      have HKK := Lib.hid (fun (h0 : k2 ≠ 0) => HH.out.2.2.1 dn k2 i2 c2 t2 b2 cs2 ks2 r2 hk h0)
      have HV2 := Lib.hid (hv2.below hBw (fun _ _ h => h))
      have HRW := Lib.hid (And.intro hRow (And.intro hLl hba))
      have HJ := Lib.hid hjn
      have hsz := HM.out
      clear hk hEV2 hBw hRow hlen hlr hvs hget hd2 hltb hv2 hRr happ hfull hL hba hLl
      generalize hjj : dn.len = j at *
      clear hjj
      generalize kids.len = m at *
      by_cases h0 : k2 = 0
      · subst h0
        have hz : v2 = .nilIface := by
          obtain ⟨bl, bn, bc, cl, cn, cc, l, n, cap, q, p, hve, _⟩ := HV2.out
          exact hve
        subst hz
        clear HKK HFULL hten
        go_wp2_with fail
        go_roundw
        case rel => exact HREL.out _ _ _ L (by rw [HAPP.out, txL_zero]; simp [txL]) HBw.out HRW.out.1 (by have := HRW.out.2.1; omega)
        case measure => simp [intOf]; have := HJ.out; omega
      · obtain ⟨u2, y2, hu2⟩ := HV2.out.if' (show 1 ≤ k2 by rcases hten with h | h <;> omega) (show k2 ≤ 10 by rcases hten with h | h <;> omega)
        subst hu2
        obtain ⟨K2, rv2, ⟨T2, x2, hTx, hm, hcf, hna⟩, hCK⟩ := HKK.out h0 wr _ hB0r HV2.out
        cases hTx
        have HCK := Lib.hid (hCK wr (Below.refl _ _))
        have HN0 := Lib.hid h0
        clear hCK HKK h0 hten hB0r
        cases htx : tx1 ⟨k2, i2, c2, t2, b2, cs2, ks2⟩ with
        | none =>
          have HFN := Lib.hid (show txL kids = none by rw [HFULL.out, txL_none HN0.out htx]; rfl)
          rw [htx] at HCK
          clear htx
          go_wp2_with fail
          refine HCK.out.mono ?_
          intro e5 w5 h5
          obtain ⟨⟨u, pv, rfl⟩, hB5⟩ := TXP.n h5
          exact ⟨rfl, by rw [HFN.out]; exact ⟨⟨u, pv, rfl⟩, bel_tr HB1.out (bel_tr HBw.out hB5)⟩⟩
        | some s =>
          have HL4 := Lib.hid (show txL (dn.app (.cons k2 i2 c2 t2 b2 cs2 ks2 .nil)) = some (L ++ [s]) by rw [HAPP.out, txL_one HN0.out, htx]; rfl)
          rw [htx] at HCK
          clear htx
          go_wp2_with fail
          refine HCK.out.mono ?_
          intro e5 w5 h5
          obtain ⟨rfl, hB5⟩ := TXP.s h5
          have HB5 := Lib.hid hB5
          have HR5 := fun o => Lib.hid ((HRW.out.1.below hB5).alloc o)
          have HS5 := Lib.hid (Src.oneAt (P := Tryz.prog) (w := w5) (tx := 244) Tryz.underlying244 (.string ⟨s.toArray⟩) 9 rfl (g := w5.heap.size) rfl)
          have hle9 : w1.heap.size ≤ w5.heap.size := Nat.le_trans HBw.out.size hB5.size
          clear h5 hB5
          go_wp2_with (at_builtin; refine wpList_append_row rfl _ _ 244 244 rfl 9 i0 (.string ⟨#[]⟩) 1 16 Tryz.underlying244 hi hy0 hy1 hy2 rfl rfl (HR5 _).out 1 _ HS5.out (by unfold maxLen; omega) (by omega) (by simp; omega) ?_; intro a4 c4 w4 hrow hgr hbk4; have HR4 := Lib.hid hrow; have HG4 := Lib.hid hgr; have HB4 := Lib.hid hbk4; clear hrow hgr hbk4)
          go_roundw
          case rel =>
            have hA : Below w5.heap.size w5 (w5.alloc (.cells #[.string ⟨s.toArray⟩] 9)) := (Below.refl _ _).alloc (Nat.le_refl _) _
            have h0 : Below wr.heap.size wr (w5.alloc (.cells #[.string ⟨s.toArray⟩] 9)) := bel_tr HB5.out hA
            have h2 : Below w1.heap.size w1 w4 := (bel_tr HBw.out h0).trans (((Kept.refl (fun x => blockOf a3 = some x) (w5.alloc (.cells #[.string ⟨s.toArray⟩] 9))).grown HG4.out (fun x hx _ => hx)).below (by have := h0.size; have := HBw.out.size; omega) (fun y hy h => by have := HRW.out.2.2 y h; omega))
            have hlL : (L ++ [s]).length = L.length + 1 := by simp
            have hr := HREL.out w4 a4 c4 (L ++ [s]) HL4.out h2 (by rw [hlL, List.map_append]; exact HR4.out) (by have := HRW.out.2.1; omega)
            rw [hlL] at hr
            exact hr
          case measure => simp [intOf]; have := HJ.out; omega
/-- the numbers in one error are of their widths -/
def erng1 (e : Et) : Prop := e.b.fo.plain ∧ (∀ x ∈ e.cs, -9223372036854775808 ≤ x ∧ x ≤ 9223372036854775807) ∧ erng e.l
theorem erng_app : ∀ (f : Eo) {g : Eo}, erng (f.app g) → erng g
  | .nil, _, h => h
  | .cons _ _ _ _ _ _ _ r, _, h => erng_app r h.2.2.2
theorem erng_head {k i c : Int} {t : Bs} {b : Dt} {cs : List Int} {ks r : Eo} (h : erng (.cons k i c t b cs ks r)) : erng1 ⟨k, i, c, t, b, cs, ks⟩ := ⟨h.1, h.2.1, h.2.2.1⟩
theorem TW_app : ∀ (f g : Eo), TW (f.app g) = TW f + TW g
  | .nil, g => by simp [Eo.app, TW]
  | .cons k i c t b cs ks r, g => by rw [Eo.app, TW, TW, TW_app r g]; omega
theorem TW_head (k i c : Int) (t : Bs) (b : Dt) (cs : List Int) (ks r : Eo) : TW (.cons k i c t b cs ks r) = TW1 ⟨k, i, c, t, b, cs, ks⟩ + TW r := by rw [TW]; rfl
theorem methAll {S N : Nat → Prop} {e : Et} {v : Value} {w : World} (hv : EVAt S N w e v) (h1 : 1 ≤ e.k) (h2 : e.k ≤ 10) : ∃ y, v = .iface (dyn e.k) y ∧ MethE v (errf (dyn e.k)) y := by
  obtain ⟨k, i, c, t, b, cs, kids⟩ := e
  obtain ⟨bl, bn, bc, cl, cn, cc, l, n, cap, q, p, rfl, _⟩ := hv
  dsimp only at h1 h2 ⊢
  rcases kinds_cases k with rfl | rfl | rfl | rfl | rfl | rfl | rfl | rfl | rfl | rfl | ⟨z1, z2, z3, z4, z5, z6, z7, z8, z9, z10⟩
  · exact ⟨_, rfl, meth101 _ _⟩
  · exact ⟨_, rfl, meth89 _⟩
  · exact ⟨_, rfl, meth102 _⟩
  · exact ⟨_, rfl, meth103 _⟩
  · exact ⟨_, rfl, meth106 _⟩
  · exact ⟨_, rfl, meth107 _ _ _⟩
  · exact ⟨_, rfl, meth89 _⟩
  · exact ⟨_, rfl, meth108 _⟩
  · exact ⟨_, rfl, meth109 _⟩
  · exact ⟨_, rfl, meth110 _ _⟩
  · omega
theorem TW_in (e : Et) : TW e.l ≤ TW1 e := by unfold TW1; omega
theorem tx1_wrap {k i c : Int} {t : Bs} {b : Dt} {cs : List Int} {k2 i2 c2 : Int} {t2 : Bs} {b2 : Dt} {cs2 : List Int} {ks2 : Eo} (h0 : k2 ≠ 0) (h7 : k ≠ 7) (h5 : k ≠ 5) (h6 : k ≠ 6) (h4 : k ≠ 4) : tx1 ⟨k, i, c, t, b, cs, .cons k2 i2 c2 t2 b2 cs2 ks2 .nil⟩ = (tx1 ⟨k2, i2, c2, t2, b2, cs2, ks2⟩).map (fun s => t ++ 58 :: 32 :: s) := by
  rw [show tx1 ⟨k, i, c, t, b, cs, .cons k2 i2 c2 t2 b2 cs2 ks2 .nil⟩ = txK k t b cs (txL (.cons k2 i2 c2 t2 b2 cs2 ks2 .nil)) from rfl, txL_one h0]
  unfold txK
  rw [if_neg h7, if_neg h5, if_neg h6]
  cases tx1 ⟨k2, i2, c2, t2, b2, cs2, ks2⟩ with
  | none => rfl
  | some s =>
    show (if k = 4 then _ else _) = _
    rw [if_neg h4]
    rfl
def ERC (e : Et) : Prop := ∀ (S : Nat → Prop) (y : Value) (w : World), EVAt S (fun _ => False) w e (.iface (dyn e.k) y) → (∀ x, S x → x < w.heap.size) → Lb w → Calls Tryz.prog (errf (dyn e.k)) #[y] w (TXP (tx1 e) w)
theorem erc_use {e : Et} (h : ERC e) (h1 : 1 ≤ e.k) (h2 : e.k ≤ 10) {S : Nat → Prop} {w wx : World} {v : Value} (hS : ∀ x, S x → x < w.heap.size) (hL : Lb w) (hx : Below w.heap.size w wx) (hv : EVAt S (fun _ => False) wx e v) : ∃ K rv, MethE v K rv ∧ ∀ wy, Below wx.heap.size wx wy → Calls Tryz.prog K #[rv] wy (TXP (tx1 e) wy) := by
  obtain ⟨y, rfl, hm⟩ := methAll hv h1 h2
  exact ⟨_, y, hm, fun wy hy => h S y wy (hv.below hy (fun _ _ h => h)) (fun x hx' => Nat.lt_of_lt_of_le (hS x hx') (Nat.le_trans hx.size hy.size)) ((hL.below hx hL.size).below hy (Nat.le_trans hL.size hx.size))⟩
theorem errN : ∀ (H : Nat) (e : Et), ehi e.l ≤ H → rightE e = true → 1 ≤ e.k → okS e → erng1 e → TW1 e ≤ 140737488355328 → ERC e := by
  intro H
  induction H using Nat.strongRecOn with
  | ind H ih =>
  intro e hH hr h1 hok hrg hT S y w hv hS hL
  have hten := right_ten (k := e.k) (i := e.i) (c := e.c) (t := e.t) (b := e.b) (cs := e.cs) (kids := e.l) hr
  have hkid : ∀ (dn : Eo) k2 i2 c2 t2 b2 cs2 ks2 r2, e.l = dn.app (.cons k2 i2 c2 t2 b2 cs2 ks2 r2) → k2 ≠ 0 → (1 ≤ k2 ∧ k2 ≤ 10) ∧ ERC ⟨k2, i2, c2, t2, b2, cs2, ks2⟩ ∧ TW1 ⟨k2, i2, c2, t2, b2, cs2, ks2⟩ ≤ TW e.l := by
    intro dn k2 i2 c2 t2 b2 cs2 ks2 r2 hk h0
    have hr2 : rightE ⟨k2, i2, c2, t2, b2, cs2, ks2⟩ = true := by
      have h3 := hr
      unfold rightE rright1 at h3
      rw [Bool.and_eq_true] at h3
      have h4 := h3.2
      rw [hk] at h4
      exact right_head (rrightL_app _ dn h4)
    have ht2 := right_ten hr2
    have hok2 : okS ⟨k2, i2, c2, t2, b2, cs2, ks2⟩ := by
      have h4 := okC_app dn (hk ▸ hok.2.2.2 : okC (dn.app (.cons k2 i2 c2 t2 b2 cs2 ks2 r2)))
      exact ⟨h4.1, h4.2.1, h4.2.2.1, h4.2.2.2.1⟩
    have hrg2 : erng1 ⟨k2, i2, c2, t2, b2, cs2, ks2⟩ := erng_head (erng_app dn (hk ▸ hrg.2.2 : erng (dn.app (.cons k2 i2 c2 t2 b2 cs2 ks2 r2))))
    have hTW : TW1 ⟨k2, i2, c2, t2, b2, cs2, ks2⟩ ≤ TW e.l := by rw [hk, TW_app, TW_head]; omega
    have hlow : ehi ks2 < H := by
      have h4 := ehi_app dn (g := .cons k2 i2 c2 t2 b2 cs2 ks2 r2)
      rw [← hk] at h4
      simp only [ehi] at h4
      omega
    have hTe : TW e.l ≤ TW1 e := by unfold TW1; omega
    refine ⟨by omega, ih (ehi ks2) hlow _ (Nat.le_refl _) hr2 (by dsimp only; omega) hok2 hrg2 (by omega), hTW⟩
  obtain ⟨k, i, c, t, b, cs, kids⟩ := e
  dsimp only at hkid hH h1 hten hv ⊢
  have hfit : fitsE k i c t b cs.length kids.len = true := by
    unfold rightE rright1 at hr
    rw [Bool.and_eq_true] at hr
    exact hr.1
  have ht := fit_text hfit
  have hnn := (fit_num hfit).2.1
  obtain ⟨bl, bn, bc, cl, cn, cc, l, n, cap, q, p, hve, hE, h5, hpt⟩ := hv
  dsimp only at hve hE h5 hpt
  rcases kinds_cases k with rfl | rfl | rfl | rfl | rfl | rfl | rfl | rfl | rfl | rfl | ⟨z1, z2, z3, z4, z5, z6, z7, z8, z9, z10⟩
  · obtain rfl : kids = .nil := len0 (by have := hnn.2; simp [fldM] at this; omega)
    cases hve
    exact err146 c t w
  · obtain rfl : kids = .nil := len0 (by have := hnn.2; simp [fldM] at this; omega)
    cases hve
    exact err143 (hpt (.inl rfl)).1
  · obtain ⟨k2, i2, c2, t2, b2, cs2, ks2, rfl⟩ := one_kid2 hr (by decide)
    cases hve
    have hk2 := kid_pos hr (by decide)
    obtain ⟨_, hC, hTk⟩ := hkid .nil k2 i2 c2 t2 b2 cs2 ks2 .nil rfl (by omega)
    have h := err148 (o := tx1 ⟨k2, i2, c2, t2, b2, cs2, ks2⟩) (hpt (.inr (.inl rfl))).1 hE.2.2 ht (fun s hs => by have h9 := tx1_len hs; have h8 := TW_in ⟨3, i, c, t, b, cs, .cons k2 i2 c2 t2 b2 cs2 ks2 .nil⟩; dsimp only at h8; omega) (fun wx v hx hv => erc_use hC hk2.1 hk2.2 hS hL hx hv)
    have he := tx1_wrap (k := 3) (i := i) (c := c) (t := t) (b := b) (cs := cs) (k2 := k2) (i2 := i2) (c2 := c2) (t2 := t2) (b2 := b2) (cs2 := cs2) (ks2 := ks2) (by omega) (by decide) (by decide) (by decide) (by decide)
    rw [he]
    exact h
  · cases hve
    have hl : kids.len ≤ 4096 := many_len hr
    have h := err152 (p := p) (kids := kids) (hpt (.inr (.inr (.inl rfl)))).1 hE.2.2 hS (by have h9 : kids.len = n := hE.2.2.len; omega) (by have h8 := TW_in ⟨4, i, c, t, b, cs, kids⟩; dsimp only at h8; omega) (fun dn k2 i2 c2 t2 b2 cs2 ks2 r2 hk => by
        have h3 := many_right hr
        rw [hk] at h3
        have h4 := right_ten (show rightE ⟨k2, i2, c2, t2, b2, cs2, ks2⟩ = true from right_head (rrightL_app _ dn h3))
        omega) (fun dn k2 i2 c2 t2 b2 cs2 ks2 r2 hk h0 wx v hx hv => by
        obtain ⟨h3, hC, _⟩ := hkid dn k2 i2 c2 t2 b2 cs2 ks2 r2 hk h0
        exact erc_use hC h3.1 h3.2 hS hL hx hv)
    have he : tx1 ⟨4, i, c, t, b, cs, kids⟩ = (txL kids).map (fun L => Go.Lib.join L [10]) := by
      unfold tx1 txK
      dsimp only
      rw [if_neg (by decide), if_neg (by decide), if_neg (by decide)]
      cases txL kids <;> rfl
    rw [he]
    exact h
  · cases hve
    have hb : b.fo.wt ≤ 1100000000 := wt_ok (fit_hold hfit rfl)
    exact err163 (h5 rfl).1 hE.1 hS hL hrg.1 (Nat.le_trans hb (by decide))
  · cases hve
    exact err183 hE.2.1.1 (fun x hx hb => hS x (hE.2.1.2 x hx hb)) hrg.2.1 hok.2.1 hL
  · cases hve
    exact err143n w
  · cases hve
    rcases like_kids hr with rfl | ⟨k2, i2, c2, t2, b2, cs2, ks2, rfl⟩
    · have hn0 : 0 = n := hE.2.2.len
      subst hn0
      exact err185n (hpt (.inr (.inr (.inr (.inl rfl))))).1
    · have hk2 := kid_pos hr (by decide)
      obtain ⟨_, hC, hTk⟩ := hkid .nil k2 i2 c2 t2 b2 cs2 ks2 .nil rfl (by omega)
      have h := err185 (o := tx1 ⟨k2, i2, c2, t2, b2, cs2, ks2⟩) (hpt (.inr (.inr (.inr (.inl rfl))))).1 hE.2.2 ht (fun s hs => by have h9 := tx1_len hs; have h8 := TW_in ⟨8, i, c, t, b, cs, .cons k2 i2 c2 t2 b2 cs2 ks2 .nil⟩; dsimp only at h8; omega) (fun wx v hx hv => erc_use hC hk2.1 hk2.2 hS hL hx hv)
      have he := tx1_wrap (k := 8) (i := i) (c := c) (t := t) (b := b) (cs := cs) (k2 := k2) (i2 := i2) (c2 := c2) (t2 := t2) (b2 := b2) (cs2 := cs2) (ks2 := ks2) (by omega) (by decide) (by decide) (by decide) (by decide)
      rw [he]
      exact h
  · obtain rfl : kids = .nil := len0 (by have := hnn.2; simp [fldM] at this; omega)
    cases hve
    exact err192 (hpt (.inr (.inr (.inr (.inr rfl))))).1
  · obtain rfl : kids = .nil := len0 (by have := hnn.2; simp [fldM] at this; omega)
    cases hve
    exact err195 c t w
  · omega
end Go.Proofs.YtbldidiibkcelaaGreatDoor

