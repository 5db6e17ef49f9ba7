/-
  The document's Text (walk). Not a statement of the seat.
-/
import Derived.Test.YtbldidiibkcelaaGreatDoorTETxT
namespace Go.Proofs.YtbldidiibkcelaaGreatDoor
open Go.RowKit

theorem join_snoc (l : List Bs) (x sep : Bs) : Go.Lib.join (l ++ [x]) sep = if l = [] then x else Go.Lib.join l sep ++ sep ++ x := by
  cases l with
  | nil => rw [if_pos rfl, List.nil_append, Go.Lib.join_one]
  | cons a r =>
    rw [if_neg (by simp), List.cons_append, Go.Lib.join_cons, Go.Lib.join_cons]
    simp [Go.Lib.joinTail]
theorem cat_bs (a b : Bs) : (⟨a.toArray⟩ : ByteArray) ++ (⟨b.toArray⟩ : ByteArray) = ⟨(a ++ b).toArray⟩ := by
  apply ByteArray.ext
  simp
theorem two_fin {fn : Func} {tmps : Array Value} {w1 : World} {s z : Value} {Q : World → Prop} (hr : fn.results = #[ResultVar.tmp 2, ResultVar.tmp 3]) (h2 : tmps.getD 2 undef = s) (h3 : tmps.getD 3 undef = z) (hQ : Q w1) :
    bodyPost Tryz.prog fn (fun r w' => r = .returned (.tuple #[s, z]) ∧ Q w') Exit.ret { tmps := tmps, defers := [] } w1 := by
  have h2' : tmps[2]?.getD undef = s := by simpa using h2
  have h3' : tmps[3]?.getD undef = z := by simpa using h3
  exact bodyPost_ret (v := .tuple #[s, z]) (by simp [results, hr, go_sem, h2', h3']) rfl ⟨rfl, hQ⟩
theorem cat_three (a b : Bs) (c : UInt8) : ((⟨a.toArray⟩ : ByteArray) ++ (⟨#[c]⟩ : ByteArray)) ++ (⟨b.toArray⟩ : ByteArray) = ⟨(a ++ [c] ++ b).toArray⟩ := by
  apply ByteArray.ext
  simp
theorem tx1_many (i c : Int) (t : Bs) (b : Dt) (cs : List Int) (kids : Eo) : tx1 ⟨4, i, c, t, b, cs, kids⟩ = (txL kids).map (fun L => Go.Lib.join L [10]) := by
  unfold tx1 txK
  dsimp only
  rw [if_neg (by decide), if_neg (by decide), if_neg (by decide)]
  cases txL kids <;> rfl
/-- what Text gives: of one error -/
def RTP (e : Et) (w : World) (r : Ending) (w' : World) : Prop := r = .returned (.tuple #[S1 (tT e).1, .int .i64 (tT e).2]) ∧ Below w.heap.size w w'
def RXOK (kids : Eo) : Prop := ∀ (k i c : Int) (t : Bs) (b : Dt) (cs : List Int) (bl : Option Addr) (bn bc : Nat) (cl : Option Addr) (cn cc : Nat) (l : Option Addr) (n cap : Nat) (S : Nat → Prop) (w : World), ErAt S w ⟨k, i, c, t, b, cs, kids⟩ bl bn bc cl cn cc l n cap → (∀ x, S x → x < w.heap.size) → Lb w → rightE ⟨k, i, c, t, b, cs, kids⟩ = true → okS ⟨k, i, c, t, b, cs, kids⟩ → erng1 ⟨k, i, c, t, b, cs, kids⟩ → TW1 ⟨k, i, c, t, b, cs, kids⟩ ≤ 140737488355328 →
  Calls Tryz.prog 27 #[vE k i c t b bl bn bc cl cn cc l n cap] w (RTP ⟨k, i, c, t, b, cs, kids⟩ w)
def RcRel (cs : List Int) (w1 : World) (t30 t4 : Value) (wr : World) : Prop := ∃ j : Nat, t30 = .int .i64 (j : Nat) ∧ j ≤ cs.length ∧ t4 = .string ⟨(Go.Lib.join ((cs.take j).map dec) [32]).toArray⟩ ∧ Below w1.heap.size w1 wr
def RmRel (kids : Eo) (w1 : World) (t50 t7 t8 : Value) (wr : World) : Prop := ∃ (dn rest : Eo) (L : List Bs), t50 = .int .i64 (dn.len : Nat) ∧ kids = dn.app rest ∧ txL dn = some L ∧ t7 = .string ⟨(Go.Lib.join L [10]).toArray⟩ ∧ t8 = .bool (L.isEmpty) ∧ Below w1.heap.size w1 wr
set_option maxRecDepth 100000 in
set_option maxHeartbeats 32000000 in
theorem rtxN {kids : Eo} (hall : kids.All RXOK) : RXOK kids := by
  intro k i c t b cs bl bn bc cl cn cc l n cap S w hE hS hL hr hok hrg hT
  have hP := ebox_blk w k i c t b bl bn bc cl cn cc l n cap
  have hB := ebox_below w k i c t b bl bn bc cl cn cc l n cap
  have hten := right_ten hr
  have hfit : fitsE k i c t b cs.length kids.len = true := by
    unfold rightE rright1 at hr
    rw [Bool.and_eq_true] at hr
    exact hr.1
  have HALL := Lib.hid (And.intro hall (And.intro hr (And.intro hok (And.intro hrg (And.intro hT (And.intro hE (And.intro hS (And.intro hL hfit))))))))
  have HT0 := Lib.hid (show (k = 0 → tT ⟨k, i, c, t, b, cs, kids⟩ = ([], 0)) ∧ (k ≠ 0 → tx1 ⟨k, i, c, t, b, cs, kids⟩ = none → tT ⟨k, i, c, t, b, cs, kids⟩ = ([], 13)) ∧ (k ≠ 0 → ∀ s, tx1 ⟨k, i, c, t, b, cs, kids⟩ = some s → tT ⟨k, i, c, t, b, cs, kids⟩ = (s, 0)) from ⟨fun h => tT_zero h, fun h hx => tT_none h hx, fun h s hx => tT_some h hx⟩)
  have hlen : kids.len = n := hE.2.2.len
  have HLEN := Lib.hid hlen
  have hn9 : n ≤ 100000 := by have := hok.2.2.1; dsimp only at this; omega
  have htl := fit_text hfit
  clear hall hr hok hrg hT hE hS hL hfit hlen
  unfold RTP
  generalize tT ⟨k, i, c, t, b, cs, kids⟩ = tt at *
  unfold vE
  go_enter Tryz.func27, Tryz.ntmps27
  go_upto_region 1 with (fail)
  change Code.wp _ _ _ _ (ebox w k i c t b bl bn bc cl cn cc l n cap)
  generalize ebox w k i c t b bl bn bc cl cn cc l n cap = w1 at *
  obtain ⟨p, hp⟩ : ∃ x, x = w.heap.size := ⟨_, rfl⟩
  rw [← hp] at hP
  rw [← hp]
  have HB := Lib.hid hB
  have HP := Lib.hid hP
  have x0 := hP.cell 0 rfl
  clear hP hB hp
  by_cases h0 : k = 0
  · have HTT := Lib.hid (HT0.out.1 h0)
    subst h0
    go_wp2_with fail
    rw [HTT.out]
    exact two_fin (Q := fun w' => Below w.heap.size w w') Tryz.results27 rfl rfl HB.out
  by_cases h7 : k = 7
  · subst h7
    have HTT := Lib.hid (HT0.out.2.1 (by decide) rfl)
    go_wp2_with fail
    rw [HTT.out]
    exact two_fin (Q := fun w' => Below w.heap.size w w') Tryz.results27 rfl rfl HB.out
  by_cases h5 : k = 5
  · subst h5
    have HTT := Lib.hid (HT0.out.2.2 (by decide) _ rfl)
    have HC := Lib.hid (show Calls Tryz.prog 62 #[.agg #[.int .i64 b.k, .int .i64 b.i, .int .u64 b.b, .string ⟨b.t.toArray⟩, .slice bl bn bc]] w1 (fun e w' => e = .returned (.string ⟨(printM b).toArray⟩) ∧ Below w1.heap.size w1 w') from by
      obtain ⟨_, _, _, hrg, _, hE, hS, hL, hfit⟩ := HALL.out
      have hk := fit_hold hfit rfl
      have h3 := hk.2.2
      rw [right_fo, Bool.and_eq_true] at h3
      have hw := wt_ok hk
      have hw2 : b.fo.wt = 4 * b.t.length + 110 + b.l.wt + 0 := rfl
      exact rprintG b.l b.k b.i b.b b.t bl bn bc S w1 (hE.1.same (w' := w1) (fun x _ hl => HB.out.block x hl) (fun x hx _ => hx)) (fun x hx => Nat.lt_of_lt_of_le (hS x hx) HB.out.size) (hL.below HB.out hL.size) h3.1 h3.2 hrg.1.1 hrg.1.2.1 (by omega))
    have x4 := HP.out.cell 4 rfl; have x5 := HP.out.cell 5 rfl; have x6 := HP.out.cell 6 rfl; have x7 := HP.out.cell 7 rfl; have x8 := HP.out.cell 8 rfl
    go_wp2_with (go_at_call 62; (with_reducible refine HC.out.mono ?_); rintro r2 w2 ⟨rfl, hB2⟩; have HB2 := Lib.hid (bel_tr HB.out hB2); clear hB2)
    rw [HTT.out]
    exact two_fin (Q := fun w' => Below w.heap.size w w') Tryz.results27 rfl rfl HB2.out
  by_cases h6 : k = 6
  · subst h6
    have HTT := Lib.hid (HT0.out.2.2 (by decide) _ rfl)
    obtain ⟨_, _, hok, hrg, _, hE, hS, hL, _⟩ := HALL.out
    have hcn : cs.length = cn := by have := hE.2.1.1.len; rw [Nat.mul_one, I8_length] at this; exact this
    have HR := Lib.hid (show Rd w1 1 cl cn cc (I8 cs) from hE.2.1.1.below HB.out)
    have HF := Lib.hid (fun (wx : World) (hx : Below w1.heap.size w1 wx) (x : Int) (hm : x ∈ cs) => fmt63 (w := wx) (hrg.2.1 x hm).1 (hrg.2.1 x hm).2 ((hL.below HB.out hL.size).below hx (Nat.le_trans hL.size HB.out.size)))
    have HCN := Lib.hid (And.intro hcn (show cs.length ≤ 100000 from hok.2.1))
    have HPX := Lib.hid (show ∀ wx, Below w1.heap.size w1 wx → wx.cell? ⟨p, 9, none⟩ = some (.slice cl cn cc) from fun wx hx => (HP.out.below hx).cell 9 rfl)
    have x9 := HP.out.cell 9 rfl
    clear hE hS hL hok hrg hcn
    go_wp2_with fail
    go_loopw [30, 4] (fun t30 t4 wr => RcRel cs w1 t30 t4 wr) (fun t30 _ _ => cn - (intOf t30).toNat)
    case atStart => exact ⟨0, rfl, Nat.zero_le _, rfl, Below.refl _ _⟩
    case round =>
      obtain ⟨j, rfl, hj, rfl, hBr⟩ := hrel
      have hcn := HCN.out.1
      have HBr := Lib.hid hBr
      by_cases hjn : j < cn
      · have hj1 : (j : Int) < (cn : Int) := by omega
        obtain ⟨bk, off, rfl, hbk, hcell⟩ := HR.out.at1 (k := j) hjn
        obtain ⟨x, hx⟩ : ∃ x, cs[j]? = some x := ⟨cs[j], List.getElem?_eq_getElem (by omega)⟩
        have hcr : wr.cell? ⟨bk, off + j, none⟩ = some (.int .i64 x) := by
          refine cellAt hBr ?_
          rw [hcell, I8, List.getElem?_map, hx]
          rfl
        have HC := Lib.hid (HF.out wr hBr x (List.mem_of_getElem? hx))
        have hnx : (cs.take (j + 1)).map dec = (cs.take j).map dec ++ [dec x] := by rw [List.take_add_one, hx]; simp
        have HNX := Lib.hid hnx
        have hjm : j ≤ 9223372036854775806 := by have := HCN.out.2; omega
        have hal : (Go.Lib.join ((cs.take j).map dec) [32]).length ≤ 10000000 := by
          have h1 := join_le ((cs.take j).map dec) 32
          have h2 := lens_dec (cs.take j)
          have h3 : (cs.take j).length ≤ cs.length := by rw [List.length_take]; omega
          rw [List.length_map] at h1
          have := HCN.out.2
          omega
        have hdl := dec_len x
        have hemp : (cs.take j).map dec = [] ↔ j = 0 := by
          rw [List.map_eq_nil_iff, List.take_eq_nil_iff]
          constructor
          · rintro (h | h)
            · exact h
            · rw [h] at hx; simp at hx
          · exact fun h => .inl h
        generalize (cs.take j).map dec = LL at *
        have HE0 := Lib.hid hemp
        have HJ := Lib.hid hjn
        have hj0 : (j = 0) ∨ (0 < j) := by omega
        unfold S1 at HC
        clear hx hcell hbk hnx hBr hj hcn hjn hemp
        rcases hj0 with hj0 | hj0
        · subst hj0
          have hLL := HE0.out.2 rfl
          subst hLL
          rw [Nat.add_zero] at hcr
          have hq : ¬ 9223372036854775807 < (dec x).length := by omega
          go_wp2_with (go_at_call 63; (with_reducible refine HC.out.mono ?_); rintro e9 w9 ⟨rfl, hb⟩; have HB9 := Lib.hid hb; clear hb)
          go_roundw
          case rel => exact ⟨1, rfl, by have := HCN.out.1; have := HJ.out; omega, by rw [HNX.out, cat_bs, join_snoc, if_pos rfl]; rfl, bel_tr HBr.out HB9.out⟩
          case measure => simp [intOf]; have := HJ.out; omega
        · have hjp : ((0 : Int) < (j : Int)) := by omega
          have HLN := Lib.hid (show LL ≠ [] from fun h => by have := HE0.out.1 h; omega)
          have hq1 : ¬ 9223372036854775807 < (Go.Lib.join LL [32]).length + 1 := by omega
          have hq2 : ¬ 9223372036854775807 < (Go.Lib.join LL [32]).length + 1 + (dec x).length := by omega
          clear hj0
          go_wp2_with (go_at_call 63; (with_reducible refine HC.out.mono ?_); rintro e9 w9 ⟨rfl, hb⟩; have HB9 := Lib.hid hb; clear hb)
          go_roundw
          case rel => exact ⟨j + 1, by go_num, by have := HCN.out.1; have := HJ.out; omega, by rw [HNX.out, cat_three, join_snoc, if_neg HLN.out], bel_tr HBr.out HB9.out⟩
          case measure => simp [intOf]; have := HJ.out; omega
      · have hj1 : ¬ (j : Int) < (cn : Int) := by omega
        have hjl : j = cs.length := by omega
        rw [hjl, List.take_length]
        rw [hjl] at hj1
        clear hj hjn hjl hBr hcn
        go_wp2_with fail
        rw [HTT.out]
        exact two_fin (Q := fun w' => Below w.heap.size w w') Tryz.results27 rfl rfl (bel_tr HB.out HBr.out)
  have HTX := Lib.hid (And.intro HT0.out.2.1 HT0.out.2.2)
  by_cases h4 : k = 4
  · subst h4
    obtain ⟨hall, hr, hok, hrg, hT, hE, hS, hL, _⟩ := HALL.out
    have hnone : txL kids = none → tt = ([], 13) := fun h => HTX.out.1 (by decide) (by rw [tx1_many, h]; rfl)
    have hsome : ∀ L, txL kids = some L → tt = (Go.Lib.join L [10], 0) := fun L h => HTX.out.2 (by decide) _ (by rw [tx1_many, h]; rfl)
    have HNS := Lib.hid (And.intro hnone hsome)
    have HKF := Lib.hid (show ∀ wx, Below w1.heap.size w1 wx → EoAt S wx kids l n cap from fun wx hx => hE.2.2.same (w' := wx) (fun x _ hl => (bel_tr HB.out hx).block x hl) (fun x hx' _ => hx'))
    have HSL := Lib.hid (And.intro hS hL)
    have HRR := Lib.hid (And.intro (many_right hr) (And.intro hok (And.intro hrg (And.intro hall (show TW kids ≤ 140737488355328 from by have h8 := TW_in ⟨4, i, c, t, b, cs, kids⟩; dsimp only at h8; omega)))))
    have x10 := HP.out.cell 10 rfl
    have HPX := Lib.hid (show ∀ wx, Below w1.heap.size w1 wx → wx.cell? ⟨p, 10, none⟩ = some (.slice l n cap) from fun wx hx => (HP.out.below hx).cell 10 rfl)
    clear hall hr hok hrg hT hE hS hL hnone hsome
    go_wp2_with fail
    go_loopw [50, 7, 8] (fun t50 t7 t8 wr => RmRel kids w1 t50 t7 t8 wr) (fun t50 _ _ _ => n - (intOf t50).toNat)
    case atStart => exact ⟨.nil, kids, [], rfl, rfl, rfl, rfl, rfl, Below.refl _ _⟩
    case round =>
      obtain ⟨dn, rest, L, rfl, hk, hL, rfl, rfl, hBr⟩ := hrel
      have HBr := Lib.hid hBr
      have hlen := HLEN.out
      rw [hk, Eo.len_app] at hlen
      cases rest with
      | nil =>
        have hj : ¬ (dn.len : Int) < (n : Int) := by have : Eo.len .nil = 0 := rfl; omega
        have HTT := Lib.hid (HNS.out.2 L (by rw [hk, Eo.app_nil]; exact hL))
        clear hk hlen hL hBr
        go_wp2_with fail
        rw [HTT.out]
        exact two_fin (Q := fun w' => Below w.heap.size w w') Tryz.results27 rfl rfl (bel_tr HB.out HBr.out)
      | cons k2 i2 c2 t2 b2 cs2 ks2 r2 =>
        have hlr : (Eo.cons k2 i2 c2 t2 b2 cs2 ks2 r2).len = r2.len + 1 := rfl
        have hF := HKF.out wr hBr
        rw [hk] at hF
        obtain ⟨bb, off, bl2, bn2, bc2, cl2, cn2, cc2, l2, n2, cp2, rfl, hkF, he, _, hjn⟩ := EoAt.elem hF
        have e0 := he 0 (by omega)
        have e1 := he 1 (by omega)
        have e2 := he 2 (by omega)
        have e3 := he 3 (by omega)
        have e4 := he 4 (by omega)
        have e5 := he 5 (by omega)
        have e6 := he 6 (by omega)
        have e7 := he 7 (by omega)
        have e8 := he 8 (by omega)
        have e9 := he 9 (by omega)
        have e10 := he 10 (by omega)
        simp only [V11, List.getElem?_cons_zero, List.getElem?_cons_succ, Nat.add_zero] at e0 e1 e2 e3 e4 e5 e6 e7 e8 e9 e10
        have hj : (dn.len : Int) < (n : Int) := by omega
        have hp10 := HPX.out wr hBr
        obtain ⟨hmr, hok, hrg, hall, hTW⟩ := HRR.out
        have hr2 : rightE ⟨k2, i2, c2, t2, b2, cs2, ks2⟩ = true := by
          have h4 := hmr
          rw [hk] at h4
          exact right_head (rrightL_app _ dn h4)
        have hok2 : okS ⟨k2, i2, c2, t2, b2, cs2, ks2⟩ := by
          have h4 := okC_app dn (hk ▸ hok.2.2.2 : okC (dn.app (.cons k2 i2 c2 t2 b2 cs2 ks2 r2)))
          exact ⟨h4.1, h4.2.1, h4.2.2.1, h4.2.2.2.1⟩
        have hrg2 : erng1 ⟨k2, i2, c2, t2, b2, cs2, ks2⟩ := erng_head (erng_app dn (hk ▸ hrg.2.2 : erng (dn.app (.cons k2 i2 c2 t2 b2 cs2 ks2 r2))))
        have hTW2 : TW dn + TW1 ⟨k2, i2, c2, t2, b2, cs2, ks2⟩ ≤ 140737488355328 := by have h4 := hTW; rw [hk, TW_app, TW_head] at h4; omega
        have hOK := (Eo.All.split dn (hk ▸ hall : (dn.app (.cons k2 i2 c2 t2 b2 cs2 ks2 r2)).All RXOK)).1
        have hC := hOK k2 i2 c2 t2 b2 cs2 bl2 bn2 bc2 cl2 cn2 cc2 l2 n2 cp2 S wr hkF (fun x hx => Nat.lt_of_lt_of_le (HSL.out.1 x hx) (Nat.le_trans HB.out.size HBr.out.size)) ((HSL.out.2.below HB.out HSL.out.2.size).below hBr (Nat.le_trans HSL.out.2.size HB.out.size)) hr2 hok2 hrg2 (by omega)
        have hLlen : (Go.Lib.join L [10]).length ≤ TW dn := by
          have h1 := join_le L 10
          have h2 := txL_len dn L hL
          omega
        have HREL := Lib.hid (show ∀ (wx : World) (L4 : List Bs) (t7 t8 : Value), txL (dn.app (.cons k2 i2 c2 t2 b2 cs2 ks2 .nil)) = some L4 → t7 = .string ⟨(Go.Lib.join L4 [10]).toArray⟩ → t8 = .bool L4.isEmpty → Below w1.heap.size w1 wx → RmRel kids w1 (.int .i64 ((dn.len + 1 : Nat) : Int)) t7 t8 wx from fun wx L4 t7 t8 h1 h2 h3 h4 =>
          ⟨dn.app (.cons k2 i2 c2 t2 b2 cs2 ks2 .nil), r2, L4, by rw [Eo.len_app, show (Eo.cons k2 i2 c2 t2 b2 cs2 ks2 .nil).len = 1 from rfl], by rw [Eo.app_assoc]; exact hk, h1, h2, h3, h4⟩)
        have HAPP := Lib.hid (show txL (dn.app (.cons k2 i2 c2 t2 b2 cs2 ks2 .nil)) = (txL (.cons k2 i2 c2 t2 b2 cs2 ks2 .nil)).map (L ++ ·) by rw [txL_app, hL]; rfl)
        have HFULL := Lib.hid (show txL kids = (txL (.cons k2 i2 c2 t2 b2 cs2 ks2 r2)).map (L ++ ·) by rw [hk, txL_app, hL]; rfl)
        have HTK := Lib.hid (fun s (hs : tx1 ⟨k2, i2, c2, t2, b2, cs2, ks2⟩ = some s) => tx1_len hs)
        have HTN := Lib.hid (And.intro (fun h0 hx => tT_none (e := ⟨k2, i2, c2, t2, b2, cs2, ks2⟩) h0 hx) (fun h0 s hx => tT_some (e := ⟨k2, i2, c2, t2, b2, cs2, ks2⟩) (s := s) h0 hx))
        have HC := Lib.hid hC
        have HLB := Lib.hid (And.intro hTW2 hLlen)
        have HJ := Lib.hid hjn
        clear hk hlen hlr hF hkF he hmr hok hrg hall hTW hr2 hok2 hrg2 hTW2 hOK hC hLlen hL hBr
        generalize hjj : dn.len = j at *
        clear hjj
        by_cases h0 : k2 = 0
        · subst h0
          clear HTN HTK HFULL HC
          go_wp2_with fail
          go_roundw
          case rel => exact HREL.out _ L _ _ (by rw [HAPP.out, txL_zero]; simp [txL]) rfl rfl HBr.out
          case measure => simp [intOf]; have := HJ.out; omega
        · have h0b : (k2 == 0) = false := by simp [h0]
          have HN0 := Lib.hid h0
          unfold RTP at HC
          clear h0
          cases htx : tx1 ⟨k2, i2, c2, t2, b2, cs2, ks2⟩ with
          | none =>
            have hte := HTN.out.1 HN0.out htx
            rw [hte] at HC
            have HTT := Lib.hid (HNS.out.1 (by rw [HFULL.out, txL_none HN0.out htx]; rfl))
            unfold S1 at HC
            clear hte HTN HTK htx
            unfold vE at HC
            go_wp2_with (go_at_call 27; (with_reducible refine HC.out.mono ?_); rintro e5 w5 ⟨rfl, hB5⟩; have HB5 := Lib.hid hB5; clear hB5)
            rw [HTT.out]
            exact two_fin (Q := fun w' => Below w.heap.size w w') Tryz.results27 rfl rfl (bel_tr HB.out (bel_tr HBr.out HB5.out))
          | some s =>
            have hte := HTN.out.2 HN0.out s htx
            rw [hte] at HC
            have hsl := HTK.out s htx
            have HL4 := Lib.hid (show txL (dn.app (.cons k2 i2 c2 t2 b2 cs2 ks2 .nil)) = some (L ++ [s]) by rw [HAPP.out, txL_one HN0.out, htx]; rfl)
            have hlb := HLB.out
            have hq0 : ¬ 9223372036854775807 < s.length := by omega
            have hq1 : ¬ 9223372036854775807 < (Go.Lib.join L [10]).length + 1 := by omega
            have hq2 : ¬ 9223372036854775807 < (Go.Lib.join L [10]).length + 1 + s.length := by omega
            unfold S1 at HC
            clear hte HTN HTK htx hsl hlb
            unfold vE at HC
            cases L with
            | nil =>
              go_wp2_with (go_at_call 27; (with_reducible refine HC.out.mono ?_); rintro e5 w5 ⟨rfl, hB5⟩; have HB5 := Lib.hid hB5; clear hB5)
              go_roundw
              case rel => exact HREL.out _ ([] ++ [s]) _ _ HL4.out (by rw [cat_bs, join_snoc, if_pos rfl]; rfl) rfl (bel_tr HBr.out HB5.out)
              case measure => simp [intOf]; have := HJ.out; omega
            | cons a0 L0 =>
              generalize hLL : a0 :: L0 = LL at *
              have HLN := Lib.hid (show LL ≠ [] by rw [← hLL]; simp)
              have hie : LL.isEmpty = false := by rw [← hLL]; rfl
              clear hLL
              rw [hie]
              go_wp2_with (go_at_call 27; (with_reducible refine HC.out.mono ?_); rintro e5 w5 ⟨rfl, hB5⟩; have HB5 := Lib.hid hB5; clear hB5)
              go_roundw
              case rel => exact HREL.out _ (LL ++ [s]) _ _ HL4.out (by rw [cat_three, join_snoc, if_neg HLN.out]) (by simp) (bel_tr HBr.out HB5.out)
              case measure => simp [intOf]; have := HJ.out; omega
  obtain ⟨hall, hr, hok, hrg, hT, hE, hS, hL, hfit⟩ := HALL.out
  have hkk : 1 ≤ k ∧ k ≤ 10 := by omega
  have hmost : kids = .nil ∨ ∃ k2 i2 c2 t2 b2 cs2 ks2, kids = .cons k2 i2 c2 t2 b2 cs2 ks2 .nil := by
    have h9 := (fit_num hfit).2.1.2
    have h8 : (fldM k).most ≤ 1 := by
      rcases kinds_cases k with rfl | rfl | rfl | rfl | rfl | rfl | rfl | rfl | rfl | rfl | ⟨z1, z2, z3, z4, z5, z6, z7, z8, z9, z10⟩ <;> first | (exact absurd rfl h4) | (decide) | omega
    rcases Nat.eq_zero_or_pos kids.len with h | h
    · exact .inl (len0 h)
    · exact .inr (len1 (by omega))
  have hb7 : (k == 7) = false := by simp [h7]
  have hb0 : (k == 0) = false := by simp [h0]
  have hb5 : (k == 5) = false := by simp [h5]
  have hb6 : (k == 6) = false := by simp [h6]
  have hb4 : (k == 4) = false := by simp [h4]
  have x3 := HP.out.cell 3 rfl
  have x10 := HP.out.cell 10 rfl
  rcases hmost with rfl | ⟨k2, i2, c2, t2, b2, cs2, ks2, rfl⟩
  · have hn0 : 0 = n := HLEN.out
    subst hn0
    have HTT := Lib.hid (HTX.out.2 h0 t (by unfold tx1 txK; dsimp only; rw [if_neg h7, if_neg h5, if_neg h6]; show (if k = 4 then _ else _) = _; rw [if_neg h4]))
    clear hall hr hok hrg hT hE hS hL hfit hkk
    go_wp2_with fail
    rw [HTT.out]
    exact two_fin (Q := fun w' => Below w.heap.size w w') Tryz.results27 rfl rfl HB.out
  · have hk2 := kid_pos hr hb4
    have hr2 := kid_right hr
    have hn1 : 1 = n := HLEN.out
    have hF := hE.2.2.same (w' := w1) (fun x _ hl => HB.out.block x hl) (fun x hx' _ => hx')
    obtain ⟨bb, off, bl2, bn2, bc2, cl2, cn2, cc2, l2, n2, cp2, rfl, hkF, he, _, hjn⟩ := EoAt.elem (dn := .nil) hF
    rw [show Eo.len .nil = 0 from rfl] at he
    have e0 := he 0 (by omega)
    have e1 := he 1 (by omega)
    have e2 := he 2 (by omega)
    have e3 := he 3 (by omega)
    have e4 := he 4 (by omega)
    have e5 := he 5 (by omega)
    have e6 := he 6 (by omega)
    have e7 := he 7 (by omega)
    have e8 := he 8 (by omega)
    have e9 := he 9 (by omega)
    have e10 := he 10 (by omega)
    simp only [V11, List.getElem?_cons_zero, List.getElem?_cons_succ, Nat.add_zero, Nat.zero_mul] at e0 e1 e2 e3 e4 e5 e6 e7 e8 e9 e10
    subst hn1
    have hok2 : okS ⟨k2, i2, c2, t2, b2, cs2, ks2⟩ := ⟨hok.2.2.2.1, hok.2.2.2.2.1, hok.2.2.2.2.2.1, hok.2.2.2.2.2.2.1⟩
    have hrg2 : erng1 ⟨k2, i2, c2, t2, b2, cs2, ks2⟩ := erng_head hrg.2.2
    have hTW : TW1 ⟨k2, i2, c2, t2, b2, cs2, ks2⟩ ≤ 140737488355328 := by
      have h8 := TW_in ⟨k, i, c, t, b, cs, .cons k2 i2 c2 t2 b2 cs2 ks2 .nil⟩
      dsimp only at h8
      rw [TW_head] at h8
      omega
    have HC := Lib.hid (hall.1 k2 i2 c2 t2 b2 cs2 bl2 bn2 bc2 cl2 cn2 cc2 l2 n2 cp2 S w1 hkF (fun x hx => Nat.lt_of_lt_of_le (hS x hx) HB.out.size) (hL.below HB.out hL.size) hr2 hok2 hrg2 hTW)
    have htw := tx1_wrap (k := k) (i := i) (c := c) (t := t) (b := b) (cs := cs) (k2 := k2) (i2 := i2) (c2 := c2) (t2 := t2) (b2 := b2) (cs2 := cs2) (ks2 := ks2) (by omega) h7 h5 h6 h4
    have HN0 := Lib.hid h0
    have HK2 := Lib.hid (show k2 ≠ 0 by omega)
    unfold RTP at HC
    clear hall hr hok hrg hE hS hL hfit hkk hk2 hr2 hF he hkF hok2 hrg2 hjn
    cases htx : tx1 ⟨k2, i2, c2, t2, b2, cs2, ks2⟩ with
    | none =>
      have HTT := Lib.hid (HTX.out.1 HN0.out (by rw [htw, htx]; rfl))
      rw [tT_none HK2.out htx] at HC
      clear htw htx hTW hT
      unfold S1 vE at HC
      go_wp2_with (go_at_call 27; (with_reducible refine HC.out.mono ?_); rintro e5 w5 ⟨rfl, hB5⟩; have HB5 := Lib.hid hB5; clear hB5)
      rw [HTT.out]
      exact two_fin (Q := fun w' => Below w.heap.size w w') Tryz.results27 rfl rfl (bel_tr HB.out HB5.out)
    | some s =>
      have HTT := Lib.hid (HTX.out.2 HN0.out (t ++ 58 :: 32 :: s) (by rw [htw, htx]; rfl))
      rw [tT_some HK2.out htx] at HC
      have hsl := tx1_len htx
      have hq1 : ¬ 9223372036854775807 < t.length + 2 := by omega
      have hq2 : ¬ 9223372036854775807 < t.length + 2 + s.length := by omega
      clear htw htx hTW hT hsl
      unfold S1 vE at HC
      go_wp2_with (go_at_call 27; (with_reducible refine HC.out.mono ?_); rintro e5 w5 ⟨rfl, hB5⟩; have HB5 := Lib.hid hB5; replace x3 := cellAt hB5 x3; clear hB5)
      rw [HTT.out]
      refine two_fin (Q := fun w' => Below w.heap.size w w') Tryz.results27 ?_ rfl (bel_tr HB.out HB5.out)
      show Value.string _ = Value.string _
      rw [cat3]
theorem rtxAll : ∀ f : Eo, f.All RXOK
  | .nil => trivial
  | .cons _ _ _ _ _ _ kids rest => ⟨rtxN (rtxAll kids), rtxAll rest⟩
theorem rtxG (kids : Eo) : RXOK kids := rtxN (rtxAll kids)
end Go.Proofs.YtbldidiibkcelaaGreatDoor

