/-
  pairs (walk). Not a statement of the seat.
-/
import Derived.Test.YtofpdhkdnbnobaaDoorBuild
namespace Go.Proofs.YtofpdhkdnbnobaaDoor
open Go.RowKit

theorem Bd.new (w : World) : Bd w.heap.size w.heap.size [] (w.alloc (.cells #[.pointer none, .slice none 0 0] 55)) := by
  refine ⟨.inl ⟨Nat.le_refl _, .slice none 0 0, ?_, ⟨rfl, .inl ⟨rfl, rfl⟩⟩, by simp [Value.ownBlock]⟩, by simp⟩
  show (w.heap.push _)[w.heap.size]? = _
  simp
theorem stringN {B bb : Nat} {acc : Bs} {w : World} (h : Bd B bb acc w) :
    Calls Tryd.prog 35 #[.pointer (some ⟨bb, 0, none⟩)] w (fun e w' => e = .returned (.string ⟨acc.toArray⟩) ∧ Bd B bb acc w' ∧ Kb B bb w w') := by
  refine (Tryd.Builder_String_any_k B bb acc w h.is h.le).mono ?_
  rintro e w' ⟨rfl, h1, h2, h3⟩
  exact ⟨rfl, ⟨h1, Nat.le_trans h.le h2.size⟩, h2, h3⟩

theorem pairs_len (l : Bs) : (pairsM l).length = 2 * l.length := by
  unfold pairsM
  induction l with
  | nil => rfl
  | cons c r ih => simp only [List.flatMap_cons, List.length_append, ih, List.length_cons]; simp [hex2]; omega
def PaRel (bb : Nat) (s : ByteArray) (w : World) (t : Value) (wr : World) : Prop :=
  ∃ k, k ≤ s.size ∧ t = .int .i64 (k : Nat) ∧ Bd bb bb (pairsM (s.data.toList.take k)) wr ∧ Below bb w wr

set_option maxHeartbeats 4000000 in
set_option maxRecDepth 100000 in
theorem pairsN {s : ByteArray} {w : World} (hl : 2 * s.size + 2 ≤ big) :
    Calls Tryd.prog 61 #[.string s] w (fun e w' => e = .returned (.string ⟨(pairsM s.data.toList).toArray⟩) ∧ Below w.heap.size w w') := by
  have hS : s.size ≤ 1000000000000000 := by unfold big at hl; omega
  have HSZ := Lib.hid (Lib.size_eq s)
  have HLL := Lib.hid hl
  have hB0 := Bd.new w
  have hK0 : Below w.heap.size w (w.alloc (.cells #[.pointer none, .slice none 0 0] 55)) := (Below.refl _ _).alloc (Nat.le_refl _) _
  clear hl
  go_enter Tryd.func61, Tryd.ntmps61
  go_upto_region 2 with (fail)
  generalize w.alloc (.cells #[.pointer none, .slice none 0 0] 55) = w1 at *
  generalize hbb : w.heap.size = bb at *
  have H0 := Lib.hid (show PaRel bb s w (.int .i64 0) w1 from ⟨0, Nat.zero_le _, rfl, by simpa [pairsM] using hB0, hK0⟩)
  clear hB0 hK0
  go_wp2_with fail
  go_loopw [7] (fun t wr => PaRel bb s w t wr) (fun t _ => s.size - (intOf t).toNat)
  case atStart => exact H0.out
  case round =>
    obtain ⟨k, hk, rfl, hB, hK⟩ := hrel
    have HB := Lib.hid hB
    have HK := Lib.hid hK
    clear hB hK H0
    by_cases h1 : k < s.size
    · have h1i : (k : Int) < (s.size : Int) := by omega
      have htk : s.data.toList.take (k + 1) = s.data.toList.take k ++ [s.data.toList[k]'(by rw [← HSZ.out]; exact h1)] := by rw [List.take_add_one, List.getElem?_eq_getElem (by rw [← HSZ.out]; exact h1)]; rfl
      have hgl : s.data.toList[k]'(by rw [← HSZ.out]; exact h1) = s[k] := by simp [ByteArray.getElem_eq_getElem_data]
      rw [hgl] at htk
      have hpl := pairs_len (s.data.toList.take k)
      rw [List.length_take, ← HSZ.out] at hpl
      have HTK := Lib.hid htk
      have hcb := (s[k]).toNat_lt
      have HI := Lib.hid (show (s[k]).toNat / 16 < (⟨#[48, 49, 50, 51, 52, 53, 54, 55, 56, 57, 97, 98, 99, 100, 101, 102]⟩ : ByteArray).size ∧ (s[k]).toNat % 16 < (⟨#[48, 49, 50, 51, 52, 53, 54, 55, 56, 57, 97, 98, 99, 100, 101, 102]⟩ : ByteArray).size by show _ < 16 ∧ _ < 16; omega)
      have HLA := Lib.hid (show (pairsM (s.data.toList.take k)).length + 1 ≤ big by have := HLL.out; unfold big at *; omega)
      have HLB := Lib.hid (show ∀ x, (pairsM (s.data.toList.take k) ++ [x]).length + 1 ≤ big by intro x; rw [List.length_append]; show _ + 1 + 1 ≤ big; have := HLL.out; unfold big at *; omega)
      have HC1 := Lib.hid (writeB ((⟨#[48, 49, 50, 51, 52, 53, 54, 55, 56, 57, 97, 98, 99, 100, 101, 102]⟩ : ByteArray)[(s[k]).toNat / 16]'HI.out.1) HB.out HLA.out)
      clear htk hgl hpl
      go_wp2_with (first
        | (go_at_call 59; (with_reducible refine HC1.out.mono ?_); rintro e w2 ⟨rfl, hBx, hKx⟩; have HB2 := Lib.hid hBx; have HK2 := Lib.hid (HK.out.trans hKx.below); have HC3 := Lib.hid (writeB ((⟨#[48, 49, 50, 51, 52, 53, 54, 55, 56, 57, 97, 98, 99, 100, 101, 102]⟩ : ByteArray)[(s[k]).toNat % 16]'HI.out.2) hBx (HLB.out _)); clear hBx hKx)
        | (go_at_call 59; (with_reducible refine HC3.out.mono ?_); rintro e w3 ⟨rfl, hBx, hKx⟩; have HB3 := Lib.hid hBx; have HK3 := Lib.hid (HK2.out.trans hKx.below); clear hBx hKx))
      go_roundw
      case rel =>
        refine ⟨k + 1, by omega, by go_num, ?_, HK3.out⟩
        rw [HTK.out]
        have hfin := HB3.out
        rw [hexAt _ HI.out.1, hexAt _ HI.out.2] at hfin
        unfold pairsM at *
        rw [List.flatMap_append]
        simpa [hex2] using hfin
      case measure => simp [intOf]; omega
    · have hke : k = s.size := by omega
      have h1i : ¬ (k : Int) < (s.size : Int) := by omega
      have hq0 : s.data.toList.take k = s.data.toList := by rw [List.take_of_length_le (by rw [← HSZ.out]; omega)]
      have hB := HB.out
      rw [hq0] at hB
      have HC := Lib.hid (stringN hB)
      clear hq0 hB
      go_wp2_with (go_at_call 35; (with_reducible refine HC.out.mono ?_); rintro e w2 ⟨rfl, hB2, hK2⟩)
      go_ret
      exact ⟨rfl, by rw [hbb]; exact HK.out.trans hK2.below⟩
end Go.Proofs.YtofpdhkdnbnobaaDoor
