/-
  FormatUint at base 16 (walks). Not a statement of the seat.
-/
import Derived.Test.YtofpdhkdnbnobaaDoorPairs
import Derived.Laws.BitsAllLaws
namespace Go.Proofs.YtofpdhkdnbnobaaDoor
open Go.RowKit

/-- the hex digits of a number, none ahead of the first -/
def hx (u : Nat) : Bs := if _h : u < 16 then [hexD.getD u 0] else hx (u / 16) ++ [hexD.getD (u % 16) 0]
termination_by u
decreasing_by omega
theorem hx_small {u : Nat} (h : u < 16) : hx u = [hexD.getD u 0] := by rw [hx, dif_pos h]
theorem hx_big {u : Nat} (h : ¬ u < 16) : hx u = hx (u / 16) ++ [hexD.getD (u % 16) 0] := by rw [hx, dif_neg h]
theorem hx_len : ∀ (n u : Nat), u < 16 ^ (n + 1) → 1 ≤ (hx u).length ∧ (hx u).length ≤ n + 1
  | 0, u, h => by
    rw [hx_small (by simpa using h)]
    simp
  | n + 1, u, h => by
    by_cases h1 : u < 16
    · rw [hx_small h1]; simp
    · have := hx_len n (u / 16) (by rw [Nat.pow_succ] at h; omega)
      rw [hx_big h1, List.length_append, List.length_singleton]
      omega
theorem hexN_zero : ∀ n, hexN n 0 = List.replicate n 48
  | 0 => rfl
  | n + 1 => by
    rw [hexN, hexN_zero n, List.replicate_succ']
    rfl
theorem hx_pad : ∀ (n u : Nat), u < 16 ^ (n + 1) → List.replicate (n + 1 - (hx u).length) 48 ++ hx u = hexN (n + 1) u
  | 0, u, h => by
    have h1 : u < 16 := by simpa using h
    rw [hx_small h1, hexN, Nat.mod_eq_of_lt h1]
    rfl
  | n + 1, u, h => by
    by_cases h1 : u < 16
    · rw [hx_small h1, hexN, Nat.mod_eq_of_lt h1, Nat.div_eq_of_lt h1, hexN_zero]
      rfl
    · have h2 : u / 16 < 16 ^ (n + 1) := by rw [Nat.pow_succ] at h; omega
      have h3 := hx_len n _ h2
      rw [hx_big h1, hexN, ← hx_pad n (u / 16) h2, List.length_append, List.length_singleton, ← List.append_assoc]
      congr 3
      omega

theorem digAt : ∀ (i : Nat) (h : i < (⟨#[48, 49, 50, 51, 52, 53, 54, 55, 56, 57, 97, 98, 99, 100, 101, 102, 103, 104, 105, 106, 107, 108, 109, 110, 111, 112, 113, 114, 115, 116, 117, 118, 119, 120, 121, 122]⟩ : ByteArray).size), i < 16 → (⟨#[48, 49, 50, 51, 52, 53, 54, 55, 56, 57, 97, 98, 99, 100, 101, 102, 103, 104, 105, 106, 107, 108, 109, 110, 111, 112, 113, 114, 115, 116, 117, 118, 119, 120, 121, 122]⟩ : ByteArray)[i] = hexD.getD i 0 := by decide
theorem and15 {u : Nat} (h : u < 18446744073709551616) : bits .and .u64 (u : Int) 15 = ((u % 16 : Nat) : Int) := by
  have := u64_and_nat u 15 h (by omega)
  rw [nat_mask4] at this
  exact this

/-- between two rounds: i: the place of the first digit written -/
def HxRel (u : Nat) (w : World) (t1 t13 : Value) (wr : World) : Prop :=
  ∃ (i v : Nat) (cs : List Value) (D : Bs), t1 = .int .u64 (v : Nat) ∧ t13 = .int .i64 (i : Nat) ∧ 50 ≤ i ∧ i ≤ 65 ∧ v < 16 ^ (i - 49) ∧ Blk wr w.heap.size cs ∧ cs.length = 65 ∧ cs.drop i = B8 D ∧ hx u = hx v ++ D ∧ Below w.heap.size w wr

theorem drop_set_last {cs : List Value} {i : Nat} {v : Value} (h : i < cs.length) : (cs.set i v).drop i = v :: cs.drop (i + 1) := by
  rw [List.drop_set, if_neg (by omega), Nat.sub_self]
  rw [List.drop_eq_getElem_cons h]
  rfl

theorem pow16 (w : World) : Calls Tryd.prog 113 #[.int .i64 16] w (fun e w' => e = .returned (.bool true) ∧ w' = w) := by
  have hb : (bits BinOp.and IntKind.i64 16 15 == 0) = true := by decide +kernel
  go_enter Tryd.func113, Tryd.ntmps113
  go_wp2
  go_ret
  exact ⟨rfl, rfl⟩
theorem tz16 {w : World} (htz : w.cell? ⟨6, 15, none⟩ = some (.int .u8 4)) : Calls Tryd.prog 114 #[.int .u64 16] w (fun e w' => e = .returned (.int .i64 4) ∧ w' = w) := by
  have hq : IntKind.u64.wrap (bits BinOp.and IntKind.u64 16 (IntKind.u64.wrap (-16)) * 285870213051353865) / 288230376151711744 = 15 := by decide +kernel
  go_enter Tryd.func114, Tryd.ntmps114
  go_wp2
  go_ret
  exact ⟨rfl, rfl⟩
theorem arr158 : Tryd.prog.arrayLen 158 = 65 := by kernel_rfl
theorem slice158 (b j : Nat) (hj : j < 65) (w : World) : (Instr.sliceAt 158 (.pointer (some ⟨b, 0, none⟩)) (some (.int .i64 (j : Nat))) none none).run Tryd.prog w = .ok (.slice (some ⟨b, j, none⟩) (65 - j) (65 - j)) w := by
  rw [run_sliceAt_array_l w 158 _ (by kernel_rfl) .i64 (j : Nat) (by omega) (by rw [arr158]; omega)]
  have hs : (sizeOf (Tryd.prog.elem 158)).run Tryd.prog w = .ok 1 w := by kernel_rfl
  rw [hs, arr158]
  simp only [Result.andThen, slicedAt, Int.toNat_natCast, Nat.mul_one]
  rw [if_neg (by omega)]
  simp [Addr.add]
  intro h
  exact h.symm
theorem conv_tail {w : World} {b j : Nat} {cs : List Value} {D : Bs} (h : Blk w b cs) (hl : cs.length = 65) (hd : cs.drop j = B8 D) : (convert 53 9 (.slice (some ⟨b, j, none⟩) (65 - j) (65 - j))).run Tryd.prog w = .ok (.string ⟨D.toArray⟩) w := by
  have hn : D.length = 65 - j := by
    have := congrArg List.length hd
    rw [List.length_drop, B8_length, hl] at this
    exact this.symm
  have := run_convert_bytes_back (P := Tryd.prog) w 53 9 5 ⟨b, j, none⟩ (65 - j) D Tryd.underlying53 (by kernel_rfl) Tryd.underlying9 (fun k hk => by
    rw [Addr.add_lit]
    refine h.cell (j + k) ?_
    rw [← List.getElem?_drop, hd]
    simp [B8, hk])
  rw [hn] at this
  exact this

set_option maxHeartbeats 4000000 in
set_option maxRecDepth 100000 in
theorem fmtBits {u : Nat} (hu : u < 18446744073709551616) {w : World} (hL : Lb w) :
    Calls Tryd.prog 97 #[.slice none 0 0, .int .u64 (u : Nat), .int .i64 16, .bool false, .bool false] w (fun e w' => e = .returned (.tuple #[.slice none 0 0, .string ⟨(hx u).toArray⟩]) ∧ Below w.heap.size w w') := by
  have hA := Blk.new w Tryd.zeroCells158 158
  have hB : Below w.heap.size w (w.alloc (.cells Tryd.zeroCells158 158)) := (Below.refl _ _).alloc (Nat.le_refl _) _
  have htz := (hL.below hB hL.size).tz
  have hlen : Tryd.zeroCells158.toList.length = 65 := by kernel_rfl
  have h64 : (16 : Nat) ^ 16 = 18446744073709551616 := by decide
  have H0 := Lib.hid (show HxRel u w (.int .u64 (u : Nat)) (.int .i64 (65 : Nat)) (w.alloc (.cells Tryd.zeroCells158 158)) from
    ⟨65, u, _, [], rfl, rfl, by omega, by omega, by show u < 16 ^ 16; omega, hA, hlen, by rw [List.drop_of_length_le (by omega)]; rfl, by simp, hB⟩)
  clear hL hA hlen h64
  go_enter Tryd.func97, Tryd.ntmps97
  go_upto_region 4 with (fail)
  have HB := Lib.hid hB
  clear hB
  generalize w.alloc (.cells Tryd.zeroCells158 158) = w1 at *
  go_wp2_with (first | (go_at_call 113; (with_reducible refine (pow16 _).mono ?_); rintro e x ⟨rfl, rfl⟩) | (go_at_call 114; (with_reducible refine (tz16 htz).mono ?_); rintro e x ⟨rfl, rfl⟩))
  clear htz
  go_loopw [1, 13] (fun t1 t13 wr => HxRel u w t1 t13 wr) (fun t1 _ _ => (intOf t1).toNat)
  case atStart => exact H0.out
  case round =>
    obtain ⟨i, v, cs, D, rfl, rfl, h1, h2, h3, hK, hl, hd, he, hb⟩ := hrel
    have hvb : v < 18446744073709551616 := by
      have : 16 ^ (i - 49) ≤ 16 ^ 16 := Nat.pow_le_pow_right (by omega) (by omega)
      omega
    obtain ⟨j, rfl⟩ : ∃ j, i = j + 1 := ⟨i - 1, by omega⟩
    have hjc : j < cs.length := by omega
    have cc := hK.cell j (List.getElem?_eq_getElem hjc)
    have cf := hK.free j hjc
    have hset := hK.set (j := j) (.int .u8 ((hexD.getD (v % 16) 0).toNat : Nat))
    have hds := drop_set_last (cs := cs) (v := .int .u8 ((hexD.getD (v % 16) 0).toNat : Nat)) hjc
    rw [hd] at hds
    have hbs : Below w.heap.size w (wr.setCell ⟨w.heap.size, j, none⟩ (.int .u8 ((hexD.getD (v % 16) 0).toNat : Nat))) := hb.setCell (p := ⟨w.heap.size, j, none⟩) (Nat.le_refl _) _
    have HSET := Lib.hid hset
    have HDS := Lib.hid (And.intro hds he)
    have HBS := Lib.hid hbs
    have HL := Lib.hid hl
    have H3 := Lib.hid h3
    have hd1 := digAt (v % 16)
    clear hK hd he hb hl h3 H0 hset hds hbs
    by_cases hv : v < 16
    · have hm : v % 16 = v := Nat.mod_eq_of_lt hv
      rw [hm] at HSET HDS HBS hd1
      have hsl := slice158 w.heap.size j (by omega)
      have hcv := conv_tail HSET.out (by rw [List.length_set]; exact HL.out) (show _ = B8 (hexD.getD v 0 :: D) from HDS.out.1)
      have hhx : hx u = hexD.getD v 0 :: D := by rw [HDS.out.2, hx_small hv]; rfl
      have HHX := Lib.hid hhx
      have hlt : v < (⟨#[48, 49, 50, 51, 52, 53, 54, 55, 56, 57, 97, 98, 99, 100, 101, 102, 103, 104, 105, 106, 107, 108, 109, 110, 111, 112, 113, 114, 115, 116, 117, 118, 119, 120, 121, 122]⟩ : ByteArray).size := by show v < 36; omega
      have hd2 := hd1 hlt hv
      rw [← hd2] at hcv
      have HD2 := Lib.hid hd2
      clear HSET HDS hhx hd1 hd2
      go_wp2_with fail
      go_ret2
      exact ⟨by rw [HHX.out, HD2.out]; rfl, by rw [HD2.out]; exact HBS.out⟩
    · have hai := and15 hvb
      go_wp2_with fail
      have hlt : v % 16 < (⟨#[48, 49, 50, 51, 52, 53, 54, 55, 56, 57, 97, 98, 99, 100, 101, 102, 103, 104, 105, 106, 107, 108, 109, 110, 111, 112, 113, 114, 115, 116, 117, 118, 119, 120, 121, 122]⟩ : ByteArray).size := by show v % 16 < 36; omega
      have hd2 := hd1 hlt (Nat.mod_lt _ (by omega))
      go_roundw
      case rel =>
        refine ⟨j, v / 16, _, hexD.getD (v % 16) 0 :: D, by go_num, rfl, ?_, by omega, ?_, by rw [hd2]; exact HSET.out, by rw [List.length_set]; exact HL.out, HDS.out.1, ?_, by rw [hd2]; exact HBS.out⟩
        · have h3 := H3.out
          by_cases h50 : j < 50
          · have : j + 1 - 49 ≤ 1 := by omega
            have : 16 ^ (j + 1 - 49) ≤ 16 ^ 1 := Nat.pow_le_pow_right (by omega) this
            omega
          · omega
        · have h3 := H3.out
          by_cases h50 : j < 50
          · have : j + 1 - 49 ≤ 1 := by omega
            have : 16 ^ (j + 1 - 49) ≤ 16 ^ 1 := Nat.pow_le_pow_right (by omega) this
            omega
          · rw [show j + 1 - 49 = (j - 49) + 1 by omega, Nat.pow_succ] at h3
            omega
        · rw [HDS.out.2, hx_big hv]; simp
      case measure => simp [intOf]; omega
theorem fmtU76 {u : Nat} (hu : u < 18446744073709551616) {w : World} (hL : Lb w) :
    Calls Tryd.prog 76 #[.int .u64 (u : Nat), .int .i64 16] w (fun e w' => e = .returned (.string ⟨(hx u).toArray⟩) ∧ Below w.heap.size w w') := by
  have HC := Lib.hid (fmtBits hu hL)
  clear hL
  go_enter Tryd.func76, Tryd.ntmps76
  go_wp2_with (go_at_call 97; (with_reducible refine HC.out.mono ?_); rintro e w1 ⟨rfl, hb⟩)
  go_ret
  exact ⟨rfl, hb⟩
theorem fmtU {u : Nat} (hu : u < 18446744073709551616) {w : World} (hL : Lb w) :
    Calls Tryd.prog 56 #[.int .u64 (u : Nat), .int .i64 16] w (fun e w' => e = .returned (.string ⟨(hx u).toArray⟩) ∧ Below w.heap.size w w') := by
  have HC := Lib.hid (fmtU76 hu hL)
  clear hL
  go_enter Tryd.func56, Tryd.ntmps56
  go_wp2_with (go_at_call 76; (with_reducible refine HC.out.mono ?_); rintro e w1 ⟨rfl, hb⟩)
  go_ret
  exact ⟨rfl, hb⟩
end Go.Proofs.YtofpdhkdnbnobaaDoor
