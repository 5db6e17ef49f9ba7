import Derived.Test.YtoninfccmonaiaaAnswersFit
import Derived.Outline
namespace Go.Proofs.Ytoninfccmonaiaa
open Go.RowKit

set_option maxHeartbeats 4000000 in
set_option maxRecDepth 100000 in
theorem law6_not (next : Int) (l : List Ask) (a : Option Addr) (n cap : Nat) (corr : Int) (topic : ByteArray) (tick : Int) (w : World) (h : Asks w a n cap l) (hf : fitA next l = false ∨ (fitA next l = true ∧ (tick < 0 ∨ 1099511627776 < tick))) :
    Calls Try.prog 6 #[.agg #[.int .i64 next, .slice a n cap], .int .i64 corr, .string topic, .int .i64 tick] w (RV w (.bool true)) := by
  have H := Lib.hid h; clear h
  have HB := Lib.hid ((Below.refl _ w).alloc (Nat.le_refl _) (Obj.cells #[Value.int .i64 next, Value.slice a n cap] 37))
  rcases hf with hf | ⟨hf, ht | ht⟩
  · have HF := Lib.hid hf; clear hf
    go_enter Try.func6, Try.ntmps6
    go_wp2_with fail
    refine (askFit_to (H.out.below HB.out) HF.out).mono ?_
    rintro e w1 ⟨rfl, hb1⟩
    have HB1 := Lib.hid hb1; clear hb1
    go_wp2_with fail
    refine (awakeA _).mono ?_
    rintro e w2 ⟨rfl, hb2⟩
    go_wp2
    go_ret
    have h1 := HB.out.trans (HB1.out.mono (by simp))
    exact ⟨rfl, h1.trans (hb2.mono h1.size)⟩
  · have HF := Lib.hid hf; clear hf
    have hd0 : decide (tick < 0) = true := by simpa using ht
    clear ht
    go_enter Try.func6, Try.ntmps6
    go_wp2_with fail
    refine (askFit_to (H.out.below HB.out) HF.out).mono ?_
    rintro e w1 ⟨rfl, hb1⟩
    have HB1 := Lib.hid hb1; clear hb1
    go_wp2_with fail
    refine (awakeA _).mono ?_
    rintro e w2 ⟨rfl, hb2⟩
    go_wp2
    go_ret
    have h1 := HB.out.trans (HB1.out.mono (by simp))
    exact ⟨rfl, h1.trans (hb2.mono h1.size)⟩
  · have HF := Lib.hid hf; clear hf
    have hd0 : decide (tick < 0) = false := by simp; omega
    have hd1 : decide (1099511627776 < tick) = true := by simpa using ht
    clear ht
    go_enter Try.func6, Try.ntmps6
    go_wp2_with fail
    refine (askFit_to (H.out.below HB.out) HF.out).mono ?_
    rintro e w1 ⟨rfl, hb1⟩
    have HB1 := Lib.hid hb1; clear hb1
    go_wp2_with fail
    refine (awakeA _).mono ?_
    rintro e w2 ⟨rfl, hb2⟩
    go_wp2
    go_ret
    have h1 := HB.out.trans (HB1.out.mono (by simp))
    exact ⟨rfl, h1.trans (hb2.mono h1.size)⟩

theorem law6 (next : Int) (l : List Ask) (a : Option Addr) (n cap : Nat) (corr : Int) (topic : ByteArray) (tick : Int) (w : World) (h : Asks w a n cap l) :
    Calls Try.prog 6 #[.agg #[.int .i64 next, .slice a n cap], .int .i64 corr, .string topic, .int .i64 tick] w (RV w (.bool true)) := by
  cases hf : fitA next l with
  | false => exact law6_not next l a n cap corr topic tick w h (.inl hf)
  | true =>
    by_cases h0 : tick < 0
    · exact law6_not next l a n cap corr topic tick w h (.inr ⟨hf, .inl h0⟩)
    · by_cases h1 : 1099511627776 < tick
      · exact law6_not next l a n cap corr topic tick w h (.inr ⟨hf, .inr h1⟩)
      · exact law6_fit next l a n cap corr topic tick w h hf (by omega) (by omega)
end Go.Proofs.Ytoninfccmonaiaa
