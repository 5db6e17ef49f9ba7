/-
  The document's Print (walks). Not a statement of the seat.
-/
import Derived.Test.YtofpdhkdnbnobaaDoorRQuote
import Derived.Test.YtofpdhkdnbnobaaDoorTwo
namespace Go.Proofs.YtofpdhkdnbnobaaDoor
open Go.RowKit

theorem digitsR {n : Int} {w : World} (h0 : -9223372036854775808 ≤ n) (h1 : n ≤ 9223372036854775807) (h : Lb w) :
    Calls Tryd.prog 37 #[.int .i64 n] w (fun e w' => e = .returned (.string ⟨(dec n).toArray⟩) ∧ Below w.heap.size w w') := by
  have hd := dec_eq n h0 h1
  have HT := Lib.hid h.tab
  clear h
  go_enter Tryd.func37, Tryd.ntmps37
  go_wp2_with (go_at_call 72; refine (Tryd.strconv_FormatInt_10 _ h0 h1 _ HT.out).mono ?_; rintro e w1 ⟨rfl, k, os, rfl⟩)
  go_ret
  exact ⟨by rw [hd]; rfl, below_grow _ _ _⟩

/-- R.Print of a value with these children -/
def RPOK (kids : Fo) : Prop := ∀ (k i b : Int) (t : Bs) (l : Option Addr) (n c : Nat) (S : Nat → Prop) (w : World), FoAt S w kids l n c → (∀ x, S x → x < w.heap.size) → Lb w → fitsM k i b t kids.len = true → rightM kids = true →
  ((0 ≤ b ∧ b < 18446744073709551616) ∧ -9223372036854775808 ≤ i ∧ i ≤ 9223372036854775807) → kids.plain → 4 * t.length + 110 + kids.wt ≤ 2000000000 →
  Calls Tryd.prog 16 #[.agg #[.int .i64 k, .int .i64 i, .int .u64 b, .string ⟨t.toArray⟩, .slice l n c]] w (fun e w' => e = .returned (.string ⟨(oneM k i b t (rowP true kids)).toArray⟩) ∧ Below w.heap.size w w')

def RwRel (kids : Fo) (w : World) (t3 t7 : Value) (wr : World) : Prop := ∃ (dn rest : Fo) (o : ByteArray), t3 = .string o ∧ t7 = .int .i64 (dn.len : Nat) ∧ kids = dn.app rest ∧ o.data.toList = rowP true dn ∧ Below w.heap.size w wr
theorem right_app : ∀ (f : Fo) {g : Fo}, rightM (f.app g) = true → rightM g = true
  | .nil, _, h => h
  | .cons _ _ _ _ _ r, _, h => by
    simp only [Fo.app, rightM, Bool.and_eq_true] at h
    exact right_app r h.2

set_option maxHeartbeats 8000000 in
set_option maxRecDepth 100000 in
theorem rrowN {kids : Fo} (hall : kids.All RPOK) {l : Option Addr} {n c : Nat} {S : Nat → Prop} {w : World} (hF : FoAt S w kids l n c) (hS : ∀ x, S x → x < w.heap.size) (hL : Lb w) (hr : rightM kids = true) (hp : kids.plain) (hw : kids.wt ≤ 2000000000) :
    Calls Tryd.prog 40 #[.slice l n c] w (fun e w' => e = .returned (.string ⟨(rowP true kids).toArray⟩) ∧ Below w.heap.size w w') := by
  have hlen := hF.len
  have HF := Lib.hid hF
  have HS := Lib.hid hS
  have HL := Lib.hid hL
  have HALL := Lib.hid hall
  have HR := Lib.hid hr
  have HP := Lib.hid hp
  have HWT := Lib.hid hw
  have HLEN := Lib.hid hlen
  clear hF hS hL hall hr hp hlen hw
  go_enter Tryd.func40, Tryd.ntmps40
  go_wp2_with fail
  go_loopw [3, 7] (fun t3 t7 wr => RwRel kids w t3 t7 wr) (fun _ t7 _ => n - (intOf t7).toNat)
  case atStart => exact ⟨.nil, kids, _, rfl, rfl, rfl, rfl, Below.refl _ _⟩
  case round =>
    obtain ⟨dn, rest, o, rfl, rfl, hk, ho, hb⟩ := hrel
    have hlen := HLEN.out
    rw [hk, Fo.len_app] at hlen
    have HO := Lib.hid ho
    have HB := Lib.hid hb
    cases rest with
    | nil =>
      have hj : ¬ (dn.len : Int) < (n : Int) := by have : Fo.len .nil = 0 := rfl; omega
      have hke : kids = dn := by rw [hk, Fo.app_nil]
      have HKE := Lib.hid hke
      clear hk hlen hke ho hb
      go_wp2_with fail
      go_ret
      refine ⟨?_, HB.out⟩
      rw [HKE.out, ← HO.out, Lib.mk_data]
      rfl
    | cons k2 i2 b2 t2 ks r2 =>
      have hlr : (Fo.cons k2 i2 b2 t2 ks r2).len = r2.len + 1 := rfl
      have hF := HF.out.same (w' := wr) (fun x hx hlt => hb.block x hlt) (fun x hx _ => hx)
      rw [hk] at hF
      obtain ⟨bb, off, a2, n2, cp2, rfl, hkF, e0, e1, e2, e3, e4, hnb, hjn⟩ := hF.elem
      have hj : (dn.len : Int) < (n : Int) := by omega
      have hOK : RPOK ks := by
        have hal := HALL.out
        rw [hk] at hal
        exact (Fo.All.split dn hal).1
      have hrt : rightM (.cons k2 i2 b2 t2 ks r2) = true := right_app dn (by rw [← hk]; exact HR.out)
      simp only [rightM, Bool.and_eq_true] at hrt
      have hpl : Fo.plain (.cons k2 i2 b2 t2 ks r2) := plain_app dn (by rw [← hk]; exact HP.out)
      have hwt := wt_app dn (.cons k2 i2 b2 t2 ks r2)
      rw [← hk] at hwt
      have hw9 := HWT.out
      simp only [Fo.wt] at hwt
      have hol : o.size ≤ dn.wt := by rw [Lib.size_eq, ho]; exact rowP_len dn true
      have hon : (oneM k2 i2 b2 t2 (rowP true ks)).length ≤ 4 * t2.length + 90 + ks.wt := by
        have h1 := oneM_len k2 i2 b2 t2 (rowP true ks)
        have h2 := rowP_len ks true
        omega
      have n1 : ¬ 9223372036854775807 < o.size + (oneM k2 i2 b2 t2 (rowP true ks)).length := by omega
      have n2' : ¬ 9223372036854775807 < o.size + 2 := by omega
      have n3 : ¬ 9223372036854775807 < o.size + 2 + (oneM k2 i2 b2 t2 (rowP true ks)).length := by omega
      have HC := Lib.hid (hOK k2 i2 b2 t2 a2 n2 cp2 S wr hkF (fun x hx2 => Nat.lt_of_lt_of_le (HS.out x hx2) hb.size) (HL.out.below hb HL.out.size) hrt.1.1 hrt.1.2 hpl.1 hpl.2.1 (by omega))
      have hsn := rowP_snoc dn true k2 i2 b2 t2 ks
      have HSN := Lib.hid hsn
      have HKK := Lib.hid hk
      have HJ := Lib.hid hjn
      clear hkF hOK hk hlen hF hlr ho hb hrt hpl hwt hw9 hol hon hsn
      generalize oneM k2 i2 b2 t2 (rowP true ks) = ot at *
      generalize hjj : dn.len = j at *
      have HJJ := Lib.hid hjj
      clear hjj
      by_cases hj0 : j = 0
      · have hz : ¬ (0 : Int) < (j : Int) := by omega
        have HJ0 := Lib.hid hj0
        clear hj0
        go_wp2_with (go_at_call 16; (with_reducible refine HC.out.mono ?_); rintro e w5 ⟨rfl, hb5⟩)
        go_roundw
        case rel =>
          refine ⟨dn.app (.cons k2 i2 b2 t2 ks .nil), r2, _, rfl, ?_, ?_, ?_, HB.out.trans (hb5.mono HB.out.size)⟩
          · rw [Fo.len_app, HJJ.out, show (Fo.cons k2 i2 b2 t2 ks .nil).len = 1 from rfl]; go_num
          · rw [Fo.app_assoc]; exact HKK.out
          · rw [HSN.out, cat_data, HO.out, HJ0.out]; simp
        case measure => simp [intOf]; have := HJ.out; omega
      · have hz : (0 : Int) < (j : Int) := by omega
        have HJ0 := Lib.hid hj0
        clear hj0
        go_wp2_with (go_at_call 16; (with_reducible refine HC.out.mono ?_); rintro e w5 ⟨rfl, hb5⟩)
        go_roundw
        case rel =>
          refine ⟨dn.app (.cons k2 i2 b2 t2 ks .nil), r2, _, rfl, ?_, ?_, ?_, HB.out.trans (hb5.mono HB.out.size)⟩
          · rw [Fo.len_app, HJJ.out, show (Fo.cons k2 i2 b2 t2 ks .nil).len = 1 from rfl]; go_num
          · rw [Fo.app_assoc]; exact HKK.out
          · rw [HSN.out, cat_data, cat_data, HO.out]; simp [HJ0.out]
        case measure => simp [intOf]; have := HJ.out; omega
theorem hexN_step (m v : Nat) : hexN (m + 2) v = hexN m (v / 256) ++ hex2 (UInt8.ofNat (v % 256)) := by
  have h1 : (UInt8.ofNat (v % 256)).toNat = v % 256 := by rw [UInt8.toNat_ofNat']; show v % 256 % 256 = _; omega
  rw [hexN, hexN, hex2, h1, List.append_assoc, show v / 16 / 16 = v / 256 by omega, show v / 16 % 16 = v % 256 / 16 by omega, show v % 256 % 16 = v % 16 by omega]
  rfl
def PyRel (s : ByteArray) (w : World) (t5 t6 : Value) (wr : World) : Prop := ∃ (j : Nat) (o : ByteArray), j ≤ s.size ∧ t5 = .string o ∧ t6 = .int .i64 (j : Nat) ∧ o.data.toList = 37 :: pairsM (s.data.toList.take j) ∧ Below w.heap.size w wr
def FlRel (u : Nat) (w : World) (t3 t4 : Value) (wr : World) : Prop := ∃ (j : Nat) (o : ByteArray) (k : Int), j ≤ 8 ∧ t3 = .string o ∧ t4 = .int .i64 k ∧ k = 56 - 8 * (j : Int) ∧ o.data.toList = 102 :: hexN (2 * j) (u / 2 ^ (64 - 8 * j)) ∧ Below w.heap.size w wr
set_option maxHeartbeats 16000000 in
set_option maxRecDepth 100000 in
theorem rprintN {kids : Fo} (hall : kids.All RPOK) : RPOK kids := by
  intro k i b t l n c S w hF hS hL hfit hrk hr hkp hw
  have HX := boxD_blk w ⟨k, i, b, t, kids⟩ l n c
  have HB := Lib.hid (boxD_below w ⟨k, i, b, t, kids⟩ l n c)
  have HLW := Lib.hid (hL.below HB.out hL.size)
  have hdl := dec_len i
  go_enter Tryd.func16, Tryd.ntmps16
  go_upto_region 1 with (fail)
  change Code.wp _ _ _ _ (boxD w ⟨k, i, b, t, kids⟩ l n c)
  generalize boxD w ⟨k, i, b, t, kids⟩ l n c = w1 at *
  obtain ⟨p, hp⟩ : ∃ p, p = w.heap.size := ⟨_, rfl⟩
  rw [← hp] at HX
  rw [← hp]
  have x0 := HX.cell 0 rfl
  have x1 := HX.cell 1 rfl
  have x2 := HX.cell 2 rfl
  have x3 := HX.cell 3 rfl
  have x4 := HX.cell 4 rfl
  have HKEEP := Lib.hid (show ∀ wx, Below w1.heap.size w1 wx → wx.cell? ⟨p, 1, none⟩ = some (.int .i64 i) ∧ wx.cell? ⟨p, 3, none⟩ = some (.string ⟨t.toArray⟩) ∧ wx.cell? ⟨p, 4, none⟩ = some (.slice l n c) from fun wx hx => ⟨cellAt hx x1, cellAt hx x3, cellAt hx x4⟩)
  have HR := Lib.hid hr.2
  have hb9 := hr.1
  clear hL hr HX hp
  by_cases hk : k = 0
  · subst hk
    go_wp2_with fail
    go_ret
    exact ⟨rfl, HB.out⟩
  by_cases hk : k = 1
  · subst hk
    have HC := Lib.hid (digitsR HR.out.1 HR.out.2 HLW.out)
    go_wp2_with (go_at_call 37; (with_reducible refine HC.out.mono ?_); rintro e w2 ⟨rfl, hb2⟩)
    go_ret
    exact ⟨rfl, HB.out.trans (hb2.mono HB.out.size)⟩
  by_cases hk : k = 2
  · subst hk
    have HC := Lib.hid (digitsR HR.out.1 HR.out.2 HLW.out)
    have n1 : ¬ 9223372036854775807 < 1 + (dec i).length := by omega
    go_wp2_with (go_at_call 37; (with_reducible refine HC.out.mono ?_); rintro e w2 ⟨rfl, hb2⟩)
    go_ret
    exact ⟨by show _ = Ending.returned (Value.string ⟨(35 :: dec i).toArray⟩); rw [show (35 :: dec i) = ((⟨#[35]⟩ : ByteArray) ++ ⟨(dec i).toArray⟩).data.toList by rw [cat_data]; rfl, Lib.mk_data]; rfl, HB.out.trans (hb2.mono HB.out.size)⟩
  by_cases hk : k = 3
  · subst hk
    obtain ⟨u, hbu⟩ : ∃ u : Nat, b = (u : Int) := ⟨b.toNat, by omega⟩
    have HBU := Lib.hid hbu
    have hu : u < 18446744073709551616 := by omega
    clear hbu

    go_wp2_with fail
    go_loopw [3, 4] (fun t3 t4 wr => FlRel u w1 t3 t4 wr) (fun _ t4 _ => (intOf t4 + 8).toNat)
    case atStart => exact ⟨0, _, _, by omega, rfl, rfl, by omega, by show [102] = 102 :: hexN 0 _; rfl, Below.refl _ _⟩
    case round =>
      obtain ⟨j, o, kk, hj, rfl, rfl, hkk, ho, hb⟩ := hrel
      have HO := Lib.hid ho
      have HBr := Lib.hid hb
      have x2' := cellAt hb x2
      have hol : o.size = 1 + 2 * j := by rw [Lib.size_eq, ho, List.length_cons, hexN_len]; omega
      clear ho hb x2
      by_cases hjj : j = 0
      · subst hjj
        obtain rfl : kk = 56 := by omega
        clear hkk hj
        have hc : IntKind.u8.wrap (b / 72057594037927936) = ((UInt8.ofNat (u / 72057594037927936 % 256)).toNat : Int) := by
          rw [HBU.out, UInt8.toNat_ofNat', IntKind.wrap_u8']
          show _ = ((u / 72057594037927936 % 256 % 256 : Nat) : Int)
          omega
        have hst := hexN_step 0 (u / 72057594037927936)
        rw [show u / 72057594037927936 / 256 = u / 18446744073709551616 by omega] at hst
        have HST := Lib.hid hst
        clear hst
        have HC := Lib.hid (hexR (UInt8.ofNat (u / 72057594037927936 % 256)) wr)
        have hl2 : (hex2 (UInt8.ofNat (u / 72057594037927936 % 256))).length = 2 := rfl
        generalize UInt8.ofNat (u / 72057594037927936 % 256) = cc at *
        generalize hex2 cc = hh at *
        have n1 : ¬ 9223372036854775807 < o.size + hh.length := by omega
        clear hl2
        go_wp2_with (go_at_call 38; (with_reducible refine HC.out.mono ?_); rintro e w2 ⟨rfl, m, rfl⟩)
        go_roundw
        case rel =>
          refine ⟨1, _, _, by omega, rfl, rfl, by omega, ?_, HBr.out.trans (below_drewN _ _ _)⟩
          rw [cat_data, HO.out]
          show 102 :: (hexN 0 (u / 18446744073709551616) ++ hh) = 102 :: hexN 2 (u / 72057594037927936)
          rw [HST.out]
        case measure => simp [intOf]
      by_cases hjj : j = 1
      · subst hjj
        obtain rfl : kk = 48 := by omega
        clear hkk hj
        have hc : IntKind.u8.wrap (b / 281474976710656) = ((UInt8.ofNat (u / 281474976710656 % 256)).toNat : Int) := by
          rw [HBU.out, UInt8.toNat_ofNat', IntKind.wrap_u8']
          show _ = ((u / 281474976710656 % 256 % 256 : Nat) : Int)
          omega
        have hst := hexN_step 2 (u / 281474976710656)
        rw [show u / 281474976710656 / 256 = u / 72057594037927936 by omega] at hst
        have HST := Lib.hid hst
        clear hst
        have HC := Lib.hid (hexR (UInt8.ofNat (u / 281474976710656 % 256)) wr)
        have hl2 : (hex2 (UInt8.ofNat (u / 281474976710656 % 256))).length = 2 := rfl
        generalize UInt8.ofNat (u / 281474976710656 % 256) = cc at *
        generalize hex2 cc = hh at *
        have n1 : ¬ 9223372036854775807 < o.size + hh.length := by omega
        clear hl2
        go_wp2_with (go_at_call 38; (with_reducible refine HC.out.mono ?_); rintro e w2 ⟨rfl, m, rfl⟩)
        go_roundw
        case rel =>
          refine ⟨2, _, _, by omega, rfl, rfl, by omega, ?_, HBr.out.trans (below_drewN _ _ _)⟩
          rw [cat_data, HO.out]
          show 102 :: (hexN 2 (u / 72057594037927936) ++ hh) = 102 :: hexN 4 (u / 281474976710656)
          rw [HST.out]
        case measure => simp [intOf]
      by_cases hjj : j = 2
      · subst hjj
        obtain rfl : kk = 40 := by omega
        clear hkk hj
        have hc : IntKind.u8.wrap (b / 1099511627776) = ((UInt8.ofNat (u / 1099511627776 % 256)).toNat : Int) := by
          rw [HBU.out, UInt8.toNat_ofNat', IntKind.wrap_u8']
          show _ = ((u / 1099511627776 % 256 % 256 : Nat) : Int)
          omega
        have hst := hexN_step 4 (u / 1099511627776)
        rw [show u / 1099511627776 / 256 = u / 281474976710656 by omega] at hst
        have HST := Lib.hid hst
        clear hst
        have HC := Lib.hid (hexR (UInt8.ofNat (u / 1099511627776 % 256)) wr)
        have hl2 : (hex2 (UInt8.ofNat (u / 1099511627776 % 256))).length = 2 := rfl
        generalize UInt8.ofNat (u / 1099511627776 % 256) = cc at *
        generalize hex2 cc = hh at *
        have n1 : ¬ 9223372036854775807 < o.size + hh.length := by omega
        clear hl2
        go_wp2_with (go_at_call 38; (with_reducible refine HC.out.mono ?_); rintro e w2 ⟨rfl, m, rfl⟩)
        go_roundw
        case rel =>
          refine ⟨3, _, _, by omega, rfl, rfl, by omega, ?_, HBr.out.trans (below_drewN _ _ _)⟩
          rw [cat_data, HO.out]
          show 102 :: (hexN 4 (u / 281474976710656) ++ hh) = 102 :: hexN 6 (u / 1099511627776)
          rw [HST.out]
        case measure => simp [intOf]
      by_cases hjj : j = 3
      · subst hjj
        obtain rfl : kk = 32 := by omega
        clear hkk hj
        have hc : IntKind.u8.wrap (b / 4294967296) = ((UInt8.ofNat (u / 4294967296 % 256)).toNat : Int) := by
          rw [HBU.out, UInt8.toNat_ofNat', IntKind.wrap_u8']
          show _ = ((u / 4294967296 % 256 % 256 : Nat) : Int)
          omega
        have hst := hexN_step 6 (u / 4294967296)
        rw [show u / 4294967296 / 256 = u / 1099511627776 by omega] at hst
        have HST := Lib.hid hst
        clear hst
        have HC := Lib.hid (hexR (UInt8.ofNat (u / 4294967296 % 256)) wr)
        have hl2 : (hex2 (UInt8.ofNat (u / 4294967296 % 256))).length = 2 := rfl
        generalize UInt8.ofNat (u / 4294967296 % 256) = cc at *
        generalize hex2 cc = hh at *
        have n1 : ¬ 9223372036854775807 < o.size + hh.length := by omega
        clear hl2
        go_wp2_with (go_at_call 38; (with_reducible refine HC.out.mono ?_); rintro e w2 ⟨rfl, m, rfl⟩)
        go_roundw
        case rel =>
          refine ⟨4, _, _, by omega, rfl, rfl, by omega, ?_, HBr.out.trans (below_drewN _ _ _)⟩
          rw [cat_data, HO.out]
          show 102 :: (hexN 6 (u / 1099511627776) ++ hh) = 102 :: hexN 8 (u / 4294967296)
          rw [HST.out]
        case measure => simp [intOf]
      by_cases hjj : j = 4
      · subst hjj
        obtain rfl : kk = 24 := by omega
        clear hkk hj
        have hc : IntKind.u8.wrap (b / 16777216) = ((UInt8.ofNat (u / 16777216 % 256)).toNat : Int) := by
          rw [HBU.out, UInt8.toNat_ofNat', IntKind.wrap_u8']
          show _ = ((u / 16777216 % 256 % 256 : Nat) : Int)
          omega
        have hst := hexN_step 8 (u / 16777216)
        rw [show u / 16777216 / 256 = u / 4294967296 by omega] at hst
        have HST := Lib.hid hst
        clear hst
        have HC := Lib.hid (hexR (UInt8.ofNat (u / 16777216 % 256)) wr)
        have hl2 : (hex2 (UInt8.ofNat (u / 16777216 % 256))).length = 2 := rfl
        generalize UInt8.ofNat (u / 16777216 % 256) = cc at *
        generalize hex2 cc = hh at *
        have n1 : ¬ 9223372036854775807 < o.size + hh.length := by omega
        clear hl2
        go_wp2_with (go_at_call 38; (with_reducible refine HC.out.mono ?_); rintro e w2 ⟨rfl, m, rfl⟩)
        go_roundw
        case rel =>
          refine ⟨5, _, _, by omega, rfl, rfl, by omega, ?_, HBr.out.trans (below_drewN _ _ _)⟩
          rw [cat_data, HO.out]
          show 102 :: (hexN 8 (u / 4294967296) ++ hh) = 102 :: hexN 10 (u / 16777216)
          rw [HST.out]
        case measure => simp [intOf]
      by_cases hjj : j = 5
      · subst hjj
        obtain rfl : kk = 16 := by omega
        clear hkk hj
        have hc : IntKind.u8.wrap (b / 65536) = ((UInt8.ofNat (u / 65536 % 256)).toNat : Int) := by
          rw [HBU.out, UInt8.toNat_ofNat', IntKind.wrap_u8']
          show _ = ((u / 65536 % 256 % 256 : Nat) : Int)
          omega
        have hst := hexN_step 10 (u / 65536)
        rw [show u / 65536 / 256 = u / 16777216 by omega] at hst
        have HST := Lib.hid hst
        clear hst
        have HC := Lib.hid (hexR (UInt8.ofNat (u / 65536 % 256)) wr)
        have hl2 : (hex2 (UInt8.ofNat (u / 65536 % 256))).length = 2 := rfl
        generalize UInt8.ofNat (u / 65536 % 256) = cc at *
        generalize hex2 cc = hh at *
        have n1 : ¬ 9223372036854775807 < o.size + hh.length := by omega
        clear hl2
        go_wp2_with (go_at_call 38; (with_reducible refine HC.out.mono ?_); rintro e w2 ⟨rfl, m, rfl⟩)
        go_roundw
        case rel =>
          refine ⟨6, _, _, by omega, rfl, rfl, by omega, ?_, HBr.out.trans (below_drewN _ _ _)⟩
          rw [cat_data, HO.out]
          show 102 :: (hexN 10 (u / 16777216) ++ hh) = 102 :: hexN 12 (u / 65536)
          rw [HST.out]
        case measure => simp [intOf]
      by_cases hjj : j = 6
      · subst hjj
        obtain rfl : kk = 8 := by omega
        clear hkk hj
        have hc : IntKind.u8.wrap (b / 256) = ((UInt8.ofNat (u / 256 % 256)).toNat : Int) := by
          rw [HBU.out, UInt8.toNat_ofNat', IntKind.wrap_u8']
          show _ = ((u / 256 % 256 % 256 : Nat) : Int)
          omega
        have hst := hexN_step 12 (u / 256)
        rw [show u / 256 / 256 = u / 65536 by omega] at hst
        have HST := Lib.hid hst
        clear hst
        have HC := Lib.hid (hexR (UInt8.ofNat (u / 256 % 256)) wr)
        have hl2 : (hex2 (UInt8.ofNat (u / 256 % 256))).length = 2 := rfl
        generalize UInt8.ofNat (u / 256 % 256) = cc at *
        generalize hex2 cc = hh at *
        have n1 : ¬ 9223372036854775807 < o.size + hh.length := by omega
        clear hl2
        go_wp2_with (go_at_call 38; (with_reducible refine HC.out.mono ?_); rintro e w2 ⟨rfl, m, rfl⟩)
        go_roundw
        case rel =>
          refine ⟨7, _, _, by omega, rfl, rfl, by omega, ?_, HBr.out.trans (below_drewN _ _ _)⟩
          rw [cat_data, HO.out]
          show 102 :: (hexN 12 (u / 65536) ++ hh) = 102 :: hexN 14 (u / 256)
          rw [HST.out]
        case measure => simp [intOf]
      by_cases hjj : j = 7
      · subst hjj
        obtain rfl : kk = 0 := by omega
        clear hkk hj
        have hc : IntKind.u8.wrap b = ((UInt8.ofNat (u / 1 % 256)).toNat : Int) := by
          rw [HBU.out, UInt8.toNat_ofNat', IntKind.wrap_u8']
          show _ = ((u / 1 % 256 % 256 : Nat) : Int)
          omega
        have hst := hexN_step 14 (u / 1)
        rw [show u / 1 / 256 = u / 256 by omega] at hst
        have HST := Lib.hid hst
        clear hst
        have HC := Lib.hid (hexR (UInt8.ofNat (u / 1 % 256)) wr)
        have hl2 : (hex2 (UInt8.ofNat (u / 1 % 256))).length = 2 := rfl
        generalize UInt8.ofNat (u / 1 % 256) = cc at *
        generalize hex2 cc = hh at *
        have n1 : ¬ 9223372036854775807 < o.size + hh.length := by omega
        clear hl2
        go_wp2_with (go_at_call 38; (with_reducible refine HC.out.mono ?_); rintro e w2 ⟨rfl, m, rfl⟩)
        go_roundw
        case rel =>
          refine ⟨8, _, _, by omega, rfl, rfl, by omega, ?_, HBr.out.trans (below_drewN _ _ _)⟩
          rw [cat_data, HO.out]
          show 102 :: (hexN 14 (u / 256) ++ hh) = 102 :: hexN 16 (u / 1)
          rw [HST.out]
        case measure => simp [intOf]
      obtain rfl : j = 8 := by omega
      obtain rfl : kk = -8 := by omega
      clear hkk hj
      go_wp2_with fail
      go_ret
      refine ⟨?_, HB.out.trans (HBr.out.mono HB.out.size)⟩
      show _ = Ending.returned (Value.string ⟨(102 :: hexN 16 b.toNat).toArray⟩)
      rw [show b.toNat = u by rw [HBU.out]; rfl]
      rw [show (102 :: hexN 16 u) = o.data.toList by rw [HO.out]; simp, Lib.mk_data]
      rfl
  by_cases hk : k = 4
  · subst hk
    have HC := Lib.hid (quotedR (s := ⟨t.toArray⟩) (by show t.length ≤ _; omega) w1)
    go_wp2_with (go_at_call 39; (with_reducible refine HC.out.mono ?_); rintro e w2 ⟨rfl, hb2⟩)
    go_ret
    exact ⟨rfl, HB.out.trans (hb2.mono HB.out.size)⟩
  by_cases hk : k = 5
  · subst hk
    have HC := Lib.hid (quotedR (s := ⟨t.toArray⟩) (by show t.length ≤ _; omega) w1)
    have hql := quoteM_len t
    have n1 : ¬ 9223372036854775807 < 1 + (quoteM t).length := by omega
    go_wp2_with (go_at_call 39; (with_reducible refine HC.out.mono ?_); rintro e w2 ⟨rfl, hb2⟩)
    go_ret
    exact ⟨by show _ = Ending.returned (Value.string ⟨(64 :: quoteM t).toArray⟩); rw [show (64 :: quoteM t) = ((⟨#[64]⟩ : ByteArray) ++ ⟨(quoteM t).toArray⟩).data.toList by rw [cat_data]; rfl, Lib.mk_data]; rfl, HB.out.trans (hb2.mono HB.out.size)⟩
  by_cases hk : k = 6
  · subst hk
    cases hi1 : (i == 1)
    · have hone : oneM 6 i b t (rowP true kids) = [102, 97, 108, 115, 101] := by simp [oneM]; simpa using hi1
      have HONE := Lib.hid hone
      clear hone
      go_wp2_with fail
      go_ret
      exact ⟨by rw [HONE.out]; rfl, HB.out⟩
    · have hone : oneM 6 i b t (rowP true kids) = [116, 114, 117, 101] := by simp [oneM]; simpa using hi1
      have HONE := Lib.hid hone
      clear hone
      go_wp2_with fail
      go_ret
      exact ⟨by rw [HONE.out]; rfl, HB.out⟩
  by_cases hk : k = 7
  · subst hk
    obtain ⟨s9, hs9⟩ : ∃ s9 : ByteArray, s9 = ⟨t.toArray⟩ := ⟨_, rfl⟩
    have hst : s9.data.toList = t := by rw [hs9]
    have hsz9 : s9.size ≤ 2000000000 := by rw [Lib.size_eq, hst]; omega
    rw [← hs9] at x3
    have HST := Lib.hid hst
    have HSZ9 := Lib.hid hsz9
    have HSE := Lib.hid (Lib.size_eq s9)
    clear hs9 hst hsz9
    go_wp2_with fail
    go_loopw [5, 6] (fun t5 t6 wr => PyRel s9 w1 t5 t6 wr) (fun _ t6 _ => s9.size - (intOf t6).toNat)
    case atStart => exact ⟨0, _, Nat.zero_le _, rfl, rfl, rfl, Below.refl _ _⟩
    case round =>
      obtain ⟨j, o, hj, rfl, rfl, ho, hb⟩ := hrel
      have HO := Lib.hid ho
      have HBr := Lib.hid hb
      have x3' := cellAt hb x3
      have hol : o.size = 1 + 2 * j := by
        rw [Lib.size_eq, ho, List.length_cons, pairs_len, List.length_take, ← HSE.out]
        omega
      clear ho hb x3
      by_cases h1 : j < s9.size
      · have h1i : (j : Int) < (s9.size : Int) := by omega
        have hjl : j < s9.data.toList.length := by rw [← HSE.out]; exact h1
        have hgl : s9.data.toList[j]'hjl = s9[j] := by simp [ByteArray.getElem_eq_getElem_data]
        have hpn : pairsM (s9.data.toList.take (j + 1)) = pairsM (s9.data.toList.take j) ++ hex2 s9[j] := by
          rw [List.take_add_one, List.getElem?_eq_getElem hjl, hgl]
          simp [pairsM]
        have HPN := Lib.hid hpn
        have HC := Lib.hid (hexR s9[j] wr)
        have hl2 : (hex2 s9[j]).length = 2 := rfl
        have HSZJ := HSZ9.out
        clear hgl hpn
        generalize hex2 s9[j] = hh at *
        have n1 : ¬ 9223372036854775807 < o.size + hh.length := by omega
        clear hl2
        go_wp2_with (go_at_call 38; (with_reducible refine HC.out.mono ?_); rintro e w2 ⟨rfl, m, rfl⟩)
        refine ⟨⟨j + 1, _, by omega, rfl, by go_num, ?_, HBr.out.trans (below_drewN _ _ _)⟩, by simp [intOf]; omega⟩
        rw [HPN.out, cat_data, HO.out]
        rfl
      · have hje : j = s9.size := by omega
        have h1i : ¬ (j : Int) < (s9.size : Int) := by omega
        have hpe : pairsM (s9.data.toList.take j) = pairsM t := by rw [hje, List.take_of_length_le (by rw [← HSE.out]; exact Nat.le_refl _), HST.out]
        have HPE := Lib.hid hpe
        clear hpe
        go_wp2_with fail
        go_ret
        refine ⟨?_, HB.out.trans (HBr.out.mono HB.out.size)⟩
        show _ = Ending.returned (Value.string ⟨(37 :: pairsM t).toArray⟩)
        rw [← HPE.out, ← HO.out, Lib.mk_data]
        rfl
  by_cases hk : k = 8
  · subst hk
    have HC := Lib.hid (rrowN hall (hF.same (w' := w1) (fun x hx hlt => HB.out.block x hlt) (fun x hx _ => hx)) (fun x hx => Nat.lt_of_lt_of_le (hS x hx) HB.out.size) HLW.out hrk hkp (by omega))
    have hrl := rowP_len kids true
    have n1 : ¬ 9223372036854775807 < 1 + (rowP true kids).length := by omega
    have n2 : ¬ 9223372036854775807 < 1 + (rowP true kids).length + 1 := by omega
    go_wp2_with (go_at_call 40; (with_reducible refine HC.out.mono ?_); rintro e w2 ⟨rfl, hb2⟩)
    go_ret
    exact ⟨by show _ = Ending.returned (Value.string ⟨(91 :: (rowP true kids ++ [93])).toArray⟩); rw [show (91 :: (rowP true kids ++ [93])) = ((⟨#[91]⟩ : ByteArray) ++ ⟨(rowP true kids).toArray⟩ ++ ⟨#[93]⟩).data.toList by rw [cat_data, cat_data]; rfl, Lib.mk_data]; rfl, HB.out.trans (hb2.mono HB.out.size)⟩
  by_cases hk : k = 9
  · subst hk
    have HC := Lib.hid (rrowN hall (hF.same (w' := w1) (fun x hx hlt => HB.out.block x hlt) (fun x hx _ => hx)) (fun x hx => Nat.lt_of_lt_of_le (hS x hx) HB.out.size) HLW.out hrk hkp (by omega))
    have hrl := rowP_len kids true
    have n1 : ¬ 9223372036854775807 < 1 + (rowP true kids).length := by omega
    have n2 : ¬ 9223372036854775807 < 1 + (rowP true kids).length + 1 := by omega
    go_wp2_with (go_at_call 40; (with_reducible refine HC.out.mono ?_); rintro e w2 ⟨rfl, hb2⟩)
    go_ret
    exact ⟨by show _ = Ending.returned (Value.string ⟨(40 :: (rowP true kids ++ [41])).toArray⟩); rw [show (40 :: (rowP true kids ++ [41])) = ((⟨#[40]⟩ : ByteArray) ++ ⟨(rowP true kids).toArray⟩ ++ ⟨#[41]⟩).data.toList by rw [cat_data, cat_data]; rfl, Lib.mk_data]; rfl, HB.out.trans (hb2.mono HB.out.size)⟩
  by_cases hk : k = 10
  · subst hk
    have HC1 := Lib.hid (fun (wx : World) (hx : Below w1.heap.size w1 wx) => digitsR HR.out.1 HR.out.2 (HLW.out.below hx HLW.out.size))
    have HC2 := Lib.hid (fun (wx : World) => quotedR (s := ⟨t.toArray⟩) (by show t.length ≤ _; omega) wx)
    have hql := quoteM_len t
    have n1 : ¬ 9223372036854775807 < 1 + (dec i).length := by omega
    have n2 : ¬ 9223372036854775807 < 1 + (dec i).length + (quoteM t).length := by omega
    go_wp2_with fail
    go_region_held3 (fun wx : World => wx.cell? ⟨p, 1, none⟩ = some (.int .i64 i) ∧ wx.cell? ⟨p, 3, none⟩ = some (.string ⟨t.toArray⟩) ∧ wx.cell? ⟨p, 4, none⟩ = some (.slice l n c))
      (first | exact HKEEP.out _ (Below.refl _ _) | exact HKEEP.out _ (Below.refl _ _).drew | exact HKEEP.out _ HBA.out | exact HKEEP.out _ HBB.out)
      (first
        | (go_simp; go_at_call 37; refine (HC1.out _ (Below.refl _ _).drew).mono ?_; rintro eA wA ⟨rfl, hbA⟩; have HBA := Lib.hid ((Below.refl w1.heap.size w1).drew.trans hbA); clear hbA)
        | (go_simp; go_at_call 39; refine (HC2.out _).mono ?_; rintro eB wB ⟨rfl, hbB⟩; have HBB := Lib.hid (HBA.out.trans (hbB.mono HBA.out.size)); clear hbB))
    all_goals
      go_wp2_with fail
      go_ret
      exact ⟨by show _ = Ending.returned (Value.string ⟨(33 :: (dec i ++ quoteM t)).toArray⟩); rw [show (33 :: (dec i ++ quoteM t)) = ((⟨#[33]⟩ : ByteArray) ++ ⟨(dec i).toArray⟩ ++ ⟨(quoteM t).toArray⟩).data.toList by rw [cat_data, cat_data]; rfl, Lib.mk_data]; rfl, HB.out.trans (HBB.out.mono HB.out.size)⟩
  by_cases hk : k = 11
  · subst hk
    have hk1 : kids.len = 1 := by
      simp [fitsM] at hfit
      exact hfit.2
    obtain ⟨k2, i2, b2, t2, ks, rfl⟩ : ∃ k2 i2 b2 t2 ks, kids = .cons k2 i2 b2 t2 ks .nil := by
      cases kids with
      | nil => cases hk1
      | cons k2 i2 b2 t2 ks r =>
        have hr0 : r.len = 0 := by simpa [Fo.len] using hk1
        rw [len_zero hr0]
        exact ⟨_, _, _, _, _, rfl⟩
    have hF1 := hF.same (w' := w1) (fun x hx hlt => HB.out.block x hlt) (fun x hx _ => hx)
    obtain ⟨bb, off, a2, n2, cp2, rfl, hkF, e0, e1, e2, e3, e4, hnb, hjn⟩ := FoAt.elem (dn := .nil) hF1
    replace hjn : 0 < n := hjn
    replace e0 : w1.cell? ⟨bb, off, none⟩ = _ := e0
    replace e1 : w1.cell? ⟨bb, off + 1, none⟩ = _ := e1
    replace e2 : w1.cell? ⟨bb, off + 2, none⟩ = _ := e2
    replace e3 : w1.cell? ⟨bb, off + 3, none⟩ = _ := e3
    replace e4 : w1.cell? ⟨bb, off + 4, none⟩ = _ := e4
    simp only [rightM, Bool.and_eq_true] at hrk
    obtain ⟨hkp1, hkp2, _⟩ := hkp
    simp only [Fo.wt] at hw
    have hrl := rowP_len ks true
    have hon := oneM_len k2 i2 b2 t2 (rowP true ks)
    have hrw : rowP true (.cons k2 i2 b2 t2 ks .nil) = oneM k2 i2 b2 t2 (rowP true ks) := by simp [rowP]
    have HRW := Lib.hid hrw
    have HC1 := Lib.hid (fun (wx : World) (hx : Below w1.heap.size w1 wx) => digitsR HR.out.1 HR.out.2 (HLW.out.below hx HLW.out.size))
    have HC2 := Lib.hid (fun (wx : World) (hx : Below w1.heap.size w1 wx) => hall.1 k2 i2 b2 t2 a2 n2 cp2 S wx (hkF.same (w' := wx) (fun x hx2 hlt => hx.block x hlt) (fun x hx2 _ => hx2)) (fun x hx2 => Nat.lt_of_lt_of_le (hS x hx2) (Nat.le_trans HB.out.size hx.size)) (HLW.out.below hx HLW.out.size) hrk.1.1 hrk.1.2 hkp1 hkp2 (by omega))
    have n1 : ¬ 9223372036854775807 < 1 + (dec i).length := by omega
    have n2' : ¬ 9223372036854775807 < 1 + (dec i).length + 1 := by omega
    have n3 : ¬ 9223372036854775807 < 1 + (dec i).length + 1 + (oneM k2 i2 b2 t2 (rowP true ks)).length := by omega
    have n4 : ¬ 9223372036854775807 < 1 + (dec i).length + 1 + (oneM k2 i2 b2 t2 (rowP true ks)).length + 1 := by omega
    have HKEEP2 := Lib.hid (show ∀ wx, Below w1.heap.size w1 wx → (wx.cell? ⟨p, 1, none⟩ = some (.int .i64 i) ∧ wx.cell? ⟨p, 4, none⟩ = some (.slice (some ⟨bb, off, none⟩) n c)) ∧ (wx.cell? ⟨bb, off, none⟩ = some (.int .i64 k2) ∧ wx.cell? ⟨bb, off + 1, none⟩ = some (.int .i64 i2) ∧ wx.cell? ⟨bb, off + 2, none⟩ = some (.int .u64 b2) ∧ wx.cell? ⟨bb, off + 3, none⟩ = some (.string ⟨t2.toArray⟩) ∧ wx.cell? ⟨bb, off + 4, none⟩ = some (.slice a2 n2 cp2)) from
      fun wx hx => ⟨⟨(HKEEP.out wx hx).1, (HKEEP.out wx hx).2.2⟩, ⟨cellAt hx e0, cellAt hx e1, cellAt hx e2, cellAt hx e3, cellAt hx e4⟩⟩)
    generalize oneM k2 i2 b2 t2 (rowP true ks) = ot at *
    have hj1 : (0 : Int) < (n : Int) := by omega
    clear hkF hF1 hF hrk hon hall hrl hrw HKEEP hk1 hfit
    go_wp2_with fail
    go_region_held3 (fun wx : World => (wx.cell? ⟨p, 1, none⟩ = some (.int .i64 i) ∧ wx.cell? ⟨p, 4, none⟩ = some (.slice (some ⟨bb, off, none⟩) n c)) ∧ (wx.cell? ⟨bb, off, none⟩ = some (.int .i64 k2) ∧ wx.cell? ⟨bb, off + 1, none⟩ = some (.int .i64 i2) ∧ wx.cell? ⟨bb, off + 2, none⟩ = some (.int .u64 b2) ∧ wx.cell? ⟨bb, off + 3, none⟩ = some (.string ⟨t2.toArray⟩) ∧ wx.cell? ⟨bb, off + 4, none⟩ = some (.slice a2 n2 cp2)))
      (first | exact HKEEP2.out _ (Below.refl _ _) | exact HKEEP2.out _ (Below.refl _ _).drew | exact HKEEP2.out _ HBA.out | exact HKEEP2.out _ HBB.out)
      (first
        | (go_simp; go_at_call 37; refine (HC1.out _ (Below.refl _ _).drew).mono ?_; rintro eA wA ⟨rfl, hbA⟩; have HBA := Lib.hid ((Below.refl w1.heap.size w1).drew.trans hbA); clear hbA)
        | (go_simp; go_at_call 16; refine (HC2.out _ HBA.out).mono ?_; rintro eB wB ⟨rfl, hbB⟩; have HBB := Lib.hid (HBA.out.trans (hbB.mono HBA.out.size)); clear hbB))
    all_goals
      go_wp2_with fail
      go_ret
      refine ⟨?_, HB.out.trans (HBB.out.mono HB.out.size)⟩
      rw [HRW.out]
      show _ = Ending.returned (Value.string ⟨(38 :: (dec i ++ 40 :: (ot ++ [41]))).toArray⟩)
      rw [show (38 :: (dec i ++ 40 :: (ot ++ [41]))) = ((⟨#[38]⟩ : ByteArray) ++ ⟨(dec i).toArray⟩ ++ ⟨#[40]⟩ ++ ⟨ot.toArray⟩ ++ ⟨#[41]⟩).data.toList by rw [cat_data, cat_data, cat_data, cat_data]; simp, Lib.mk_data]
      rfl
  by_cases hk : k = 12
  · subst hk
    go_wp2_with fail
    go_ret
    exact ⟨rfl, HB.out⟩
  by_cases hk : k = 13
  · subst hk
    go_wp2_with fail
    go_ret
    exact ⟨rfl, HB.out⟩
  exact absurd (fits_range hfit) (by omega)
end Go.Proofs.YtofpdhkdnbnobaaDoor
