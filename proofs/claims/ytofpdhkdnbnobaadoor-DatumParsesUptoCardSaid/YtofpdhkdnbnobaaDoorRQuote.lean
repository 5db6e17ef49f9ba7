/-
  The document's Hex and Quoted (walks). Not a statement of the seat.
-/
import Derived.Test.YtofpdhkdnbnobaaDoorParts
import Derived.Laws.BitsAllLaws
import Derived.WalkSpells
namespace Go.Proofs.YtofpdhkdnbnobaaDoor
open Go.RowKit

theorem cat2 (a b : UInt8) : (⟨#[a]⟩ ++ ⟨#[b]⟩ : ByteArray) = ⟨#[a, b]⟩ := by
  apply ByteArray.ext
  rw [ByteArray.data_append]
  rfl
theorem hexExt : ∀ x : Fin 16, (⟨#[48, 49, 50, 51, 52, 53, 54, 55, 56, 57, 97, 98, 99, 100, 101, 102]⟩ : ByteArray).extract x.val (x.val + 1) = ⟨#[hexD.getD x.val 0]⟩ := by decide
set_option maxRecDepth 100000 in
theorem hexR (c : UInt8) (w : World) : Calls Tryd.prog 38 #[.int .u8 (c.toNat : Int)] w (fun e w' => e = .returned (.string ⟨(hex2 c).toArray⟩) ∧ ∃ m, w' = w.drewN m) := by
  have hc := c.toNat_lt
  have ha := u8_and_nat c.toNat 15 hc (by omega)
  rw [nat_mask4] at ha
  replace ha : bits .and .u8 (c.toNat : Int) 15 = ((c.toNat % 16 : Nat) : Int) := ha
  have hd : (c.toNat : Int) / 16 = ((c.toNat / 16 : Nat) : Int) := by omega
  have h2 : hex2 c = [hexD.getD (c.toNat / 16) 0, hexD.getD (c.toNat % 16) 0] := rfl
  have hx := hexExt ⟨c.toNat / 16, by omega⟩
  have hy := hexExt ⟨c.toNat % 16, by omega⟩
  simp only at hx hy
  rw [h2]
  have hx16 : c.toNat / 16 < 16 := by omega
  have hy16 : c.toNat % 16 < 16 := by omega
  clear h2 hc
  generalize c.toNat / 16 = x at *
  generalize c.toNat % 16 = y at *
  generalize hexD.getD x 0 = p at *
  generalize hexD.getD y 0 = q at *
  have i1 : IntKind.u8.wrap ((x : Int) + 1) = (x : Int) + 1 := by simp [IntKind.wrap, IntKind.bits, IntKind.signed]; omega
  have i2 : IntKind.u8.wrap ((y : Int) + 1) = (y : Int) + 1 := by simp [IntKind.wrap, IntKind.bits, IntKind.signed]; omega
  have b1 : (0 : Int) ≤ (x : Int) := by omega
  have b2 : (x : Int) + 1 ≤ 16 := by omega
  have b3 : (0 : Int) ≤ (y : Int) := by omega
  have b4 : (y : Int) + 1 ≤ 16 := by omega
  have b5 : (x : Int) ≤ (x : Int) + 1 := by omega
  have b6 : (y : Int) ≤ (y : Int) + 1 := by omega
  go_enter Tryd.func38, Tryd.ntmps38
  go_wp2_with fail
  go_region
  go_wp2_with fail
  go_ret
  exact ⟨by show _ = Ending.returned (Value.string ⟨#[p, q]⟩); rw [← cat2]; rfl, 1, rfl⟩
/-- between two rounds -/
def rq (L : Bs) (k : Nat) : Bs := 34 :: (L.take k).flatMap quoteOne
theorem rq_len (L : Bs) (k : Nat) : (rq L k).length ≤ 1 + 4 * k := by
  have h1 : ∀ l : Bs, (l.flatMap quoteOne).length ≤ 4 * l.length := by
    intro l
    induction l with
    | nil => simp
    | cons c r ih =>
      have : (quoteOne c).length ≤ 4 := by unfold quoteOne; split <;> (try split) <;> simp [hex2]
      simp only [List.flatMap_cons, List.length_append, List.length_cons]
      omega
  have h2 : (L.take k).length ≤ k := by rw [List.length_take]; omega
  have h3 := h1 (L.take k)
  simp only [rq, List.length_cons]
  omega
theorem rq_next {L : Bs} {k : Nat} (h : k < L.length) : rq L (k + 1) = rq L k ++ quoteOne L[k] := by
  have h1 : L.take (k + 1) = L.take k ++ [L[k]] := by rw [List.take_add_one, List.getElem?_eq_getElem h]; rfl
  simp only [rq]
  rw [h1, List.flatMap_append]
  simp
def RqRel (s : ByteArray) (w : World) (t3 t4 : Value) (wr : World) : Prop := ∃ (k : Nat) (o : ByteArray), k ≤ s.size ∧ t3 = .string o ∧ t4 = .int .i64 (k : Nat) ∧ o.data.toList = rq s.data.toList k ∧ Below w.heap.size w wr
theorem ext_one {s : ByteArray} {k : Nat} (h : k < s.size) : s.extract k (k + 1) = ⟨#[s[k]]⟩ := by
  apply ByteArray.ext
  apply Array.toList_inj.1
  have hl : k < s.data.toList.length := by rw [← Lib.size_eq]; exact h
  rw [Lib.extract_data, Nat.add_sub_cancel_left, List.drop_eq_getElem_cons hl]
  simp [ByteArray.getElem_eq_getElem_data]
theorem cat_data (a b : ByteArray) : (a ++ b).data.toList = a.data.toList ++ b.data.toList := by rw [ByteArray.data_append, Array.toList_append]

set_option maxHeartbeats 4000000 in
set_option maxRecDepth 100000 in
theorem quotedR {s : ByteArray} (hS : s.size ≤ 1000000000000) (w : World) :
    Calls Tryd.prog 39 #[.string s] w (fun e w' => e = .returned (.string ⟨(quoteM s.data.toList).toArray⟩) ∧ Below w.heap.size w w') := by
  have HSZ := Lib.hid (Lib.size_eq s)
  have HSS := Lib.hid hS
  go_enter Tryd.func39, Tryd.ntmps39
  go_wp2_with fail
  go_loopw [3, 4] (fun t3 t4 wr => RqRel s w t3 t4 wr) (fun _ t4 _ => s.size - (intOf t4).toNat)
  case atStart => exact ⟨0, _, Nat.zero_le _, rfl, rfl, rfl, Below.refl _ _⟩
  case round =>
    obtain ⟨k, o, hk, rfl, rfl, ho, hb⟩ := hrel
    have HO := Lib.hid ho
    have HB := Lib.hid hb
    have hol : o.size ≤ 1 + 4 * k := by rw [Lib.size_eq, ho]; exact rq_len _ _
    clear ho hb
    by_cases h1 : k < s.size
    · have h1i : (k : Int) < (s.size : Int) := by omega
      have hqn := rq_next (L := s.data.toList) (k := k) (by rw [← HSZ.out]; exact h1)
      have hgl : s.data.toList[k]'(by rw [← HSZ.out]; exact h1) = s[k] := by simp [ByteArray.getElem_eq_getElem_data]
      rw [hgl] at hqn
      have HQN := Lib.hid hqn
      have hx1 := ext_one h1
      have HX1 := Lib.hid hx1
      have hcb := (s[k]).toNat_lt
      clear hqn hgl hx1
      have g1 : (0 : Int) ≤ (k : Int) := by omega
      have g2 : (k : Int) + 1 ≤ (s.size : Int) := by omega
      have g3 : (k : Int) ≤ (k : Int) + 1 := by omega
      have g4 : k + 1 ≤ s.size := by omega
      have n1 : ¬ 9223372036854775807 < o.size + 1 := by omega
      by_cases h34 : s[k] = 34
      · have hs34 : ((s[k].toNat : Int) == 34) = true := by rw [h34]; rfl
        have H34 := Lib.hid h34
        clear h34
        go_wp2_with fail
        refine ⟨⟨k + 1, _, by omega, rfl, by go_num, ?_, HB.out⟩, by simp [intOf]; omega⟩
        rw [HQN.out, cat_data, cat_data, HO.out, HX1.out, H34.out]
        simp [quoteOne]
      by_cases h92 : s[k] = 92
      · have hs34 : ((s[k].toNat : Int) == 34) = false := by rw [h92]; rfl
        have hs92 : ((s[k].toNat : Int) == 92) = true := by rw [h92]; rfl
        have H92 := Lib.hid h92
        clear h34 h92
        go_wp2_with fail
        refine ⟨⟨k + 1, _, by omega, rfl, by go_num, ?_, HB.out⟩, by simp [intOf]; omega⟩
        rw [HQN.out, cat_data, cat_data, HO.out, HX1.out, H92.out]
        simp [quoteOne]
      have hs34 : ((s[k].toNat : Int) == 34) = false := by
        have : s[k].toNat ≠ 34 := fun e => h34 (UInt8.toNat_inj.1 (by show s[k].toNat = 34; exact e))
        simp; omega
      have hs92 : ((s[k].toNat : Int) == 92) = false := by
        have : s[k].toNat ≠ 92 := fun e => h92 (UInt8.toNat_inj.1 (by show s[k].toNat = 92; exact e))
        simp; omega
      have HCC := Lib.hid (And.intro h34 h92)
      clear h34 h92
      by_cases hrg : s[k].toNat < 32 ∨ 126 < s[k].toNat
      · have hrg2 : s[k] < 32 ∨ 126 < s[k] := by
          rcases hrg with h | h
          · exact .inl (UInt8.lt_iff_toNat_lt.2 h)
          · exact .inr (UInt8.lt_iff_toNat_lt.2 h)
        have HRG := Lib.hid hrg2
        clear hrg2
        have n2 : ¬ 9223372036854775807 < o.size + 2 := by omega
        have n3 : ¬ 9223372036854775807 < o.size + 2 + 2 := by omega
        have HC := Lib.hid (hexR s[k] wr)
        have hl2 : (hex2 s[k]).length = 2 := rfl
        have HL2 := Lib.hid hl2
        generalize hxx : hex2 s[k] = hh at *
        have n4 : ¬ 9223372036854775807 < o.size + 2 + hh.length := by rw [hl2]; exact n3
        have HXX := Lib.hid hxx
        clear hl2 hxx n3
        rcases hrg with hrg | hrg
        · have h32 : (s[k].toNat : Int) < 32 := by omega
          go_wp2_with (go_at_call 38; (with_reducible refine HC.out.mono ?_); rintro e w1 ⟨rfl, m, rfl⟩)
          refine ⟨⟨k + 1, _, by omega, rfl, by go_num, ?_, HB.out.trans (below_drewN _ _ _)⟩, by simp [intOf]; omega⟩
          rw [HQN.out, cat_data, cat_data, HO.out, List.append_assoc]
          congr 1
          unfold quoteOne
          rw [if_neg (by intro h; rcases h with h | h; exact HCC.out.1 h; exact HCC.out.2 h), if_pos HRG.out, HXX.out]
          rfl
        · have h32 : ¬ (s[k].toNat : Int) < 32 := by omega
          have h126 : (126 : Int) < (s[k].toNat : Int) := by omega
          go_wp2_with (go_at_call 38; (with_reducible refine HC.out.mono ?_); rintro e w1 ⟨rfl, m, rfl⟩)
          refine ⟨⟨k + 1, _, by omega, rfl, by go_num, ?_, HB.out.trans (below_drewN _ _ _)⟩, by simp [intOf]; omega⟩
          rw [HQN.out, cat_data, cat_data, HO.out, List.append_assoc]
          congr 1
          unfold quoteOne
          rw [if_neg (by intro h; rcases h with h | h; exact HCC.out.1 h; exact HCC.out.2 h), if_pos HRG.out, HXX.out]
          rfl
      · have hrg2 : ¬ (s[k] < 32 ∨ 126 < s[k]) := by rw [UInt8.lt_iff_toNat_lt, UInt8.lt_iff_toNat_lt]; exact hrg
        have HRG := Lib.hid hrg2
        have hn32 : ¬ (s[k].toNat : Int) < 32 := by omega
        have hn126 : ¬ (126 : Int) < (s[k].toNat : Int) := by omega
        clear hrg2 hrg
        go_wp2_with fail
        refine ⟨⟨k + 1, _, by omega, rfl, by go_num, ?_, HB.out⟩, by simp [intOf]; omega⟩
        rw [HQN.out, cat_data, HO.out, HX1.out]
        congr 1
        unfold quoteOne
        rw [if_neg (by intro h; rcases h with h | h; exact HCC.out.1 h; exact HCC.out.2 h), if_neg HRG.out]
    · have hke : k = s.size := by omega
      have h1i : ¬ (k : Int) < (s.size : Int) := by omega
      have n1 : ¬ 9223372036854775807 < o.size + 1 := by omega
      have hq0 : quoteM s.data.toList = o.data.toList ++ [34] := by rw [HO.out, quoteM, rq, List.take_of_length_le (by rw [← HSZ.out]; omega)]; rfl
      have HQ0 := Lib.hid hq0
      clear hq0
      go_wp2_with fail
      go_ret
      refine ⟨?_, HB.out⟩
      rw [HQ0.out, show o.data.toList ++ [34] = (o ++ ⟨#[34]⟩).data.toList by rw [cat_data], Lib.mk_data]
      rfl
end Go.Proofs.YtofpdhkdnbnobaaDoor
