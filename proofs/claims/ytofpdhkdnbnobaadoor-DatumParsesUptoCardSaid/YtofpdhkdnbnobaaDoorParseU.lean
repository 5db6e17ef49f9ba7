/-
  ParseUint at base 16, of hex digits alone (walks). Not a statement of the seat.
-/
import Derived.Test.YtofpdhkdnbnobaaDoorParts
import Derived.Laws.Closers25
import Derived.Laws.Closers25b
import Derived.BigCall
import Derived.BigGuard
namespace Go.Proofs.YtofpdhkdnbnobaaDoor
open Go.RowKit

theorem hex_cases1 : ∀ n : Fin 256, 0 ≤ Go.Lib.indexByte hexD (UInt8.ofNat n.val) → (48 ≤ n.val ∧ n.val ≤ 57 ∧ (Go.Lib.indexByte hexD (UInt8.ofNat n.val)).toNat = n.val - 48) ∨ (97 ≤ n.val ∧ n.val ≤ 102 ∧ (Go.Lib.indexByte hexD (UInt8.ofNat n.val)).toNat = n.val - 87) := by decide +kernel
theorem hex_cases {c : UInt8} (h : 0 ≤ Go.Lib.indexByte hexD c) : (48 ≤ c.toNat ∧ c.toNat ≤ 57 ∧ (Go.Lib.indexByte hexD c).toNat = c.toNat - 48) ∨ (97 ≤ c.toNat ∧ c.toNat ≤ 102 ∧ (Go.Lib.indexByte hexD c).toNat = c.toNat - 87) := by
  have := hex_cases1 ⟨c.toNat, c.toNat_lt⟩
  simp only [UInt8.ofNat_toNat] at this
  exact this h
theorem low_hex : ∀ n : Fin 103, 97 ≤ n.val → bits .or .u8 (n.val : Int) 32 = (n.val : Int) := by decide +kernel

/-- what ParseUint comes to, of hex digits -/
def PU (t : ByteArray) (w : World) (e : Ending) (w' : World) : Prop :=
  Below w.heap.size w w' ∧ ∃ (n : Nat) (er : Value), e = .returned (.tuple #[.int .u64 (n : Nat), er]) ∧ n < 18446744073709551616 ∧
    ((er = .nilIface ∧ n = hexM t.data.toList 0) ∨ (t.size ≠ 16 ∧ (er = .iface 149 (.int .i64 2) ∨ er = .iface 149 (.int .i64 1))))

set_option maxHeartbeats 32000000 in
set_option maxRecDepth 100000 in
theorem parseU83 {t : ByteArray} (hx : ∀ c ∈ t.data.toList, 0 ≤ Go.Lib.indexByte hexD c) (hmax : t.size ≤ 9223372036854775806) {w : World} :
    Calls Tryd.prog 83 #[.string t, .int .i64 16, .int .i64 64] w (PU t w) := by
  by_cases hne : t.size = 0
  · have hemp : t.toList.isEmpty = true := by
      rw [← decide_eq_emptyBytes]
      exact decide_eq_true (by apply ByteArray.ext; exact Array.eq_empty_of_size_eq_zero hne)
    have HNE := Lib.hid hne
    clear hne
    go_enter Tryd.func83, Tryd.ntmps83
    go_wp2
    go_ret2
    exact ⟨Below.refl _ _, 0, _, rfl, by omega, .inr ⟨by rw [HNE.out]; omega, .inl rfl⟩⟩
  have hemp : t.toList.isEmpty = false := by
    rw [← decide_eq_emptyBytes]
    exact decide_eq_false (fun h => hne (by rw [h]; rfl))
  have hcv := Lib.run_convert_string_bytes (P := Tryd.prog) w 9 53 5 t (u := .string) Tryd.underlying9 Tryd.underlying53 Tryd.underlying5
  have hB : ∀ j, j < t.size → (Lib.bytesWorld w 5 t).cell? ⟨w.heap.size, j, none⟩ = some (.int .u8 (t.data.toList.getD j 0).toNat) := fun j hj => Lib.bytesWorld_cell w 5 t j hj
  have HBW := Lib.hid (Lib.bytesWorld_below w 5 t)
  generalize Lib.bytesWorld w 5 t = W1 at *
  have hLn := Lib.size_eq t
  have HPU := Lib.hid (fun (e : Ending) (h : ∃ (n : Nat) (er : Value), e = .returned (.tuple #[.int .u64 (n : Nat), er]) ∧ n < 18446744073709551616 ∧ ((er = .nilIface ∧ n = hexM t.data.toList 0) ∨ (t.size ≠ 16 ∧ (er = .iface 149 (.int .i64 2) ∨ er = .iface 149 (.int .i64 1))))) => (show PU t w e W1 from ⟨HBW.out, h⟩))
  generalize hL : t.data.toList = bs at *
  have hmv : IntKind.u64.wrap (IntKind.u64.wrap 18446744073709551616 - 1) = 18446744073709551615 := by
    rw [IntKind.wrap_u64, IntKind.wrap_u64]
    decide
  have hmv2 : IntKind.u8.wrap 16 = 16 := by decide
  have HX := Lib.hid hx
  clear hL hx
  go_enter Tryd.func83, Tryd.ntmps83
  go_wp2
  go_loop [12, 13, 101] (fun vu vn vi => ∃ (k acc : Nat) (a : Int), vu = .bool false ∧ vn = .int .u64 a ∧ vi = .int .i64 k ∧ k ≤ t.size ∧ Hid (a = (acc : Int) ∧ acc < 18446744073709551616 ∧ acc < 16 ^ k ∧ hexM bs 0 = hexM (bs.drop k) acc))
    (fun _ _ vi => t.size - (intOf vi).toNat)
  case atStart => exact ⟨0, 0, 0, rfl, rfl, rfl, by omega, Lib.hid ⟨rfl, by omega, by decide, rfl⟩⟩
  case round =>
    obtain ⟨k, acc, a, rfl, rfl, rfl, hk, hh⟩ := hrel
    obtain ⟨ha, hacc, hpw, hdec⟩ := hh.out
    clear hh
    have a0 : 0 ≤ a := by omega
    have a1 : a < 18446744073709551616 := by omega
    by_cases hkn : k < t.size
    · have hc := hB k hkn
      have hdrop : bs.drop k = bs[k]'(by omega) :: bs.drop (k + 1) := List.drop_eq_getElem_cons (by omega)
      have hget : bs.getD k 0 = bs[k]'(by omega) := by simp [List.getD, List.getElem?_eq_getElem (show k < bs.length by omega)]
      have hcx := HX.out (bs[k]'(by omega)) (List.getElem_mem _)
      rw [hdrop] at hdec
      rw [hget] at hc
      generalize bs[k]'(by omega) = c at hc hdec hcx
      rw [hexM] at hdec
      clear hB hdrop hget
      by_cases hcut : 1152921504606846976 ≤ acc
      · have hsz : t.size ≠ 16 := by
          intro h16
          have h1 : 16 ^ k ≤ 16 ^ 15 := Nat.pow_le_pow_right (by omega) (by omega)
          have h2 : (16 : Nat) ^ 15 = 1152921504606846976 := by decide
          omega
        have HSZ := Lib.hid hsz
        have icut : 1152921504606846976 ≤ a := by omega
        rcases hex_cases hcx with ⟨hd0, hd1, hd2⟩ | ⟨hd0, hd1, hd2⟩
        · clear hcut hacc hdec hpw hd2 hcx ha hsz
          go_wp2_with (go_at_call 103; (with_reducible refine (Tryd.internal_strconv_lower _ _).mono ?_); rintro e w' ⟨rfl, rfl⟩)
          go_ret2
          exact HPU.out _ ⟨18446744073709551615, _, rfl, by omega, .inr ⟨HSZ.out, .inr rfl⟩⟩
        · have hlow := low_hex ⟨c.toNat, by omega⟩ hd0
          replace hlow : bits .or .u8 (c.toNat : Int) 32 = (c.toNat : Int) := hlow
          clear hcut hacc hdec hpw hd2 hcx ha hsz
          go_wp2_with (go_at_call 103; (with_reducible refine (Tryd.internal_strconv_lower _ _).mono ?_); rintro e w' ⟨rfl, rfl⟩)
          go_ret2
          exact HPU.out _ ⟨18446744073709551615, _, rfl, by omega, .inr ⟨HSZ.out, .inr rfl⟩⟩
      · have icut : a < 1152921504606846976 := by omega
        rcases hex_cases hcx with ⟨hd0, hd1, hd2⟩ | ⟨hd0, hd1, hd2⟩
        · rw [hd2] at hdec
          have HN : Hid (a * 16 + ((c.toNat : Int) - 48) = ((acc * 16 + (c.toNat - 48) : Nat) : Int) ∧ acc * 16 + (c.toNat - 48) < 18446744073709551616 ∧ acc * 16 + (c.toNat - 48) < 16 ^ (k + 1) ∧ hexM bs 0 = hexM (bs.drop (k + 1)) (acc * 16 + (c.toNat - 48))) :=
            Lib.hid ⟨by omega, by omega, by rw [Nat.pow_succ]; omega, hdec⟩
          have iov : a * 16 + ((c.toNat : Int) - 48) < 18446744073709551616 := by omega
          clear hcut hacc hdec hpw hd2 hcx ha
          go_wp2_with (go_at_call 103; (with_reducible refine (Tryd.internal_strconv_lower _ _).mono ?_); rintro e w' ⟨rfl, rfl⟩)
          refine ⟨⟨k + 1, acc * 16 + (c.toNat - 48), a * 16 + ((c.toNat : Int) - 48), rfl, (by first | rfl | (congr 1; omega)), (by first | rfl | (congr 1; omega)), by omega, HN⟩, by simp [intOf]; omega⟩
        · have hlow := low_hex ⟨c.toNat, by omega⟩ hd0
          replace hlow : bits .or .u8 (c.toNat : Int) 32 = (c.toNat : Int) := hlow
          rw [hd2] at hdec
          have HN : Hid (a * 16 + ((c.toNat : Int) - 97 + 10) = ((acc * 16 + (c.toNat - 87) : Nat) : Int) ∧ acc * 16 + (c.toNat - 87) < 18446744073709551616 ∧ acc * 16 + (c.toNat - 87) < 16 ^ (k + 1) ∧ hexM bs 0 = hexM (bs.drop (k + 1)) (acc * 16 + (c.toNat - 87))) :=
            Lib.hid ⟨by omega, by omega, by rw [Nat.pow_succ]; omega, hdec⟩
          have iov : a * 16 + ((c.toNat : Int) - 97 + 10) < 18446744073709551616 := by omega
          clear hcut hacc hdec hpw hd2 hcx ha
          go_wp2_with (go_at_call 103; (with_reducible refine (Tryd.internal_strconv_lower _ _).mono ?_); rintro e w' ⟨rfl, rfl⟩)
          refine ⟨⟨k + 1, acc * 16 + (c.toNat - 87), a * 16 + ((c.toNat : Int) - 97 + 10), rfl, (by first | rfl | (congr 1; omega)), (by first | rfl | (congr 1; omega)), by omega, HN⟩, by simp [intOf]; omega⟩
    · have hkk : k = t.size := by omega
      subst hkk
      have hF : bs.drop t.size = [] := List.drop_eq_nil_of_le (by omega)
      rw [hF] at hdec
      subst ha
      have HD := Lib.hid hdec
      have HA := Lib.hid hacc
      clear hacc hF a0 a1 hdec hpw
      go_wp2
      go_ret2
      exact HPU.out _ ⟨acc, _, rfl, HA.out, .inl ⟨rfl, HD.out.symm⟩⟩
/-- what the public ParseUint comes to, of hex digits -/
def PV (t : ByteArray) (w : World) (e : Ending) (w' : World) : Prop :=
  Below w.heap.size w w' ∧ ∃ (n : Nat) (er : Value), e = .returned (.tuple #[.int .u64 (n : Nat), er]) ∧ n < 18446744073709551616 ∧
    ((er = .nilIface ∧ n = hexM t.data.toList 0) ∨ (t.size ≠ 16 ∧ ∃ p, er = .iface 151 p))
theorem toErr {t : ByteArray} (hmax : t.size ≤ 281474976710656) {w : World} (hL : Lb w) {p : Value} (hp : p = .int .i64 2 ∨ p = .int .i64 1) :
    Calls Tryd.prog 84 #[.string ⟨#[80, 97, 114, 115, 101, 85, 105, 110, 116]⟩, .string t, .int .i64 16, .int .i64 64, .iface 149 p] w (fun e w' => (∃ q, e = .returned (.iface 151 q)) ∧ Below w.heap.size w w') := by
  obtain ⟨te, pe, h3⟩ := hL.syn
  obtain ⟨tf, pf, h4⟩ := hL.rng
  rcases hp with rfl | rfl
  · refine (Tryd.strconv_toError_syntax _ t 16 64 _ w hmax h3 (.inr ⟨te, pe, rfl⟩)).mono ?_
    rintro e w' ⟨N, rfl, _, _, h⟩
    exact ⟨⟨_, rfl⟩, h⟩
  · refine (Tryd.strconv_toError_range _ t 16 64 _ w hmax h4 (.inr ⟨tf, pf, rfl⟩)).mono ?_
    rintro e w' ⟨N, rfl, _, _, h⟩
    exact ⟨⟨_, rfl⟩, h⟩
set_option maxRecDepth 100000 in
theorem parseU {t : ByteArray} (hx : ∀ c ∈ t.data.toList, 0 ≤ Go.Lib.indexByte hexD c) (hmax : t.size ≤ 281474976710656) {w : World} (hL : Lb w) :
    Calls Tryd.prog 66 #[.string t, .int .i64 16, .int .i64 64] w (PV t w) := by
  have HC := Lib.hid (parseU83 hx (by omega) (w := w))
  have HT := Lib.hid (fun (wx : World) (hb : Below w.heap.size w wx) {p : Value} (hp : p = .int .i64 2 ∨ p = .int .i64 1) => toErr hmax (hL.below hb hL.size) hp)
  clear hL hx hmax
  go_enter Tryd.func66, Tryd.ntmps66
  go_upto_region 2 with (go_at_call 83; (with_reducible refine HC.out.mono ?_); rintro e w1 ⟨hb, n, er, rfl, hn, h⟩)
  have HB := Lib.hid hb
  have HN := Lib.hid hn
  rcases h with ⟨rfl, h⟩ | ⟨h1, h⟩
  · have HH := Lib.hid h
    clear hb hn h
    go_wp2_with fail
    go_ret2
    exact ⟨HB.out, n, _, rfl, HN.out, .inl ⟨rfl, HH.out⟩⟩
  · have HH := Lib.hid h1
    obtain ⟨p, rfl, hp⟩ : ∃ p, er = .iface 149 p ∧ (p = .int .i64 2 ∨ p = .int .i64 1) := by
      rcases h with rfl | rfl
      · exact ⟨_, rfl, .inl rfl⟩
      · exact ⟨_, rfl, .inr rfl⟩
    have HC2 := Lib.hid (HT.out w1 hb hp)
    clear hb hn h1 hp
    go_wp2_with (go_at_call 84; (with_reducible refine HC2.out.mono ?_); rintro e2 w2 ⟨⟨q, rfl⟩, hb2⟩)
    go_ret2
    exact ⟨HB.out.trans (hb2.mono HB.out.size), n, _, rfl, HN.out, .inr ⟨HH.out, _, rfl⟩⟩
end Go.Proofs.YtofpdhkdnbnobaaDoor
