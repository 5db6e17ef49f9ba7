/-
  DatumGroups (walk). Not a statement of the seat.
-/
import Derived.Test.YtofpdhkdnbnobaaDoorRGroup
namespace Go.Proofs.YtofpdhkdnbnobaaDoor
open Go.RowKit

def gE (f : Fo) : Int := if keyF f = true then 0 else 11
def gN (f : Fo) : Nat := if keyF f = true then f.len else 0
def gX (f : Fo) : List Value := if keyF f = true then outL f.toL f.len else []
theorem GRP.to {f : Fo} {w w' : World} {e : Ending} (h : GRP f w e w') : ∃ a c, e = .returned (.tuple #[.slice a (gN f) c, .int .i64 (gE f)]) ∧ Rd w' 1 a (gN f) c (gX f) ∧ Below w.heap.size w w' := by
  obtain ⟨a, n, c, xs, er, rfl, h1, h2, ⟨hk, rfl, rfl, rfl⟩ | ⟨hk, rfl, rfl, rfl⟩⟩ := h
  · refine ⟨a, c, ?_, ?_, h2⟩
    · simp [gN, gE, hk]
    · simpa [gN, gX, hk] using h1
  · refine ⟨a, c, ?_, ?_, h2⟩
    · simp [gN, gE, hk]
    · simpa [gN, gX, hk] using h1
theorem gX_at {f : Fo} {j : Nat} (hj : j < gN f) : (gX f)[j]? = some (.int .i64 (gAt f.toL j : Nat)) := by
  unfold gN at hj
  unfold gX
  by_cases hk : keyF f = true
  · rw [if_pos hk] at hj ⊢
    unfold outL
    rw [List.getElem?_map, List.getElem?_range hj]
    rfl
  · rw [if_neg hk] at hj
    omega
theorem gN_le (f : Fo) : gN f ≤ f.len := by
  unfold gN
  split
  · exact Nat.le_refl _
  · exact Nat.zero_le _
def GlRel (n : Nat) (w3 : World) (t : Value) (wr : World) : Prop := ∃ j : Nat, t = .int .i64 (j : Nat) ∧ j ≤ n ∧ Below w3.heap.size w3 wr

set_option maxHeartbeats 8000000 in
set_option maxRecDepth 100000 in
theorem groupsT {f : Fo} {l : Option Addr} {n c : Nat} {S : Nat → Prop} {w : World} (hF : FoAt S w f l n c) (hS : ∀ x, S x → x < w.heap.size) (hL : Lb w) :
    Calls Tryd.prog 7 #[.slice l n c] w (fun e w' => e = .returned (.bool true) ∧ Below w.heap.size w w') := by
  have HF := Lib.hid hF
  have HS := Lib.hid hS
  have HAW := Lib.hid (fun (wx : World) (hx : Below w.heap.size w wx) => awakeT (hL.below hx hL.size))
  have HC := Lib.hid (fitN hF hS)
  have hfo := fitS_ok f 0
  clear hF hS hL
  go_enter Tryd.func7, Tryd.ntmps7
  cases hft : fitS f 0
  · rw [hft] at HC
    clear hfo hft
    go_wp2_with (first
      | (go_at_call 23; (with_reducible refine HC.out.mono ?_); rintro e2 w2 ⟨rfl, hB⟩
         have HB2 := Lib.hid hB
         have HC2 := Lib.hid (HAW.out w2 HB2.out)
         clear hB)
      | (go_at_call 13; (with_reducible refine HC2.out.mono ?_); rintro e3 w3 ⟨rfl, hB⟩; have HB3 := Lib.hid (HB2.out.trans (hB.mono HB2.out.size)); clear hB))
    go_ret
    exact ⟨rfl, HB3.out⟩
  · rw [hft] at HC
    obtain ⟨hok, hsz⟩ := hfo hft (by omega)
    have HOK := Lib.hid hok
    have HSZ := Lib.hid hsz
    have hn9 : gN f ≤ 100000 := by have := gN_le f; have := len_size f; omega
    have hni : (gN f : Int) ≤ 100000 := by omega
    have HX := Lib.hid (fun j (hj : j < gN f) => gX_at hj)
    clear hfo hft hok hsz
    go_wp2_with (first
      | (go_at_call 23; (with_reducible refine HC.out.mono ?_); rintro e2 w2 ⟨rfl, hB⟩
         have HB2 := Lib.hid hB
         have HC2 := Lib.hid (groupN (HF.out.same (w' := w2) (fun x _ hlt => hB.block x hlt) (fun x hx _ => hx)) (fun x hx => Nat.lt_of_lt_of_le (HS.out x hx) hB.size) HOK.out (by have := HSZ.out; omega))
         clear hB)
      | (go_at_call 24; (with_reducible refine HC2.out.mono ?_); intro e3 w3 hg; obtain ⟨a1, c1, rfl, hr1, hB⟩ := hg.to
         have HB3 := Lib.hid (HB2.out.trans (hB.mono HB2.out.size))
         have HR1 := Lib.hid hr1
         have HC3 := Lib.hid (rgroupN (HF.out.same (w' := w3) (fun x _ hlt => HB3.out.block x hlt) (fun x hx _ => hx)) (fun x hx => Nat.lt_of_lt_of_le (HS.out x hx) HB3.out.size) HOK.out (by have := HSZ.out; omega))
         clear hB hg hr1)
      | (go_at_call 25; (with_reducible refine HC3.out.mono ?_); intro e4 w4 hg; obtain ⟨a2, c2, rfl, hr2, hB⟩ := hg.to
         have HB4 := Lib.hid (HB3.out.trans (hB.mono HB3.out.size))
         have HR2 := Lib.hid hr2
         have HR12 := Lib.hid (HR1.out.below hB)
         clear hB hg hr2))
    have H0 := Lib.hid (show GlRel (gN f) w4 (.int .i64 0) w4 from ⟨0, rfl, Nat.zero_le _, Below.refl _ _⟩)
    go_loopw [34] (fun t34 wr => GlRel (gN f) w4 t34 wr) (fun t34 _ => gN f - (intOf t34).toNat)
    case atStart => exact H0.out
    case round =>
      obtain ⟨j, rfl, hj, hB⟩ := hrel
      have HB := Lib.hid hB
      clear H0
      by_cases hjn : (j : Int) < (gN f : Int)
      · have hjf : j < gN f := by omega
        obtain ⟨b1, o1, rfl, _, h1⟩ := (HR12.out.below hB).at1 hjf
        obtain ⟨b2, o2, rfl, _, h2⟩ := (HR2.out.below hB).at1 hjf
        rw [HX.out j hjf] at h1 h2
        have hmx : gN f ≤ 9223372036854775807 := by omega
        have HJF := Lib.hid hjf
        have HKEEP := Lib.hid (show ∀ wx, Below wr.heap.size wr wx → wx.cell? ⟨b1, o1 + j, none⟩ = some (.int .i64 (gAt f.toL j : Nat)) ∧ wx.cell? ⟨b2, o2 + j, none⟩ = some (.int .i64 (gAt f.toL j : Nat)) from fun wx hx => ⟨cellAt hx h1, cellAt hx h2⟩)
        clear hB h1 h2
        go_wp2_with fail
        go_region_held3 (fun wx : World => wx.cell? ⟨b1, o1 + j, none⟩ = some (.int .i64 (gAt f.toL j : Nat)) ∧ wx.cell? ⟨b2, o2 + j, none⟩ = some (.int .i64 (gAt f.toL j : Nat)))
          (first | exact HKEEP.out _ (Below.refl _ _) | exact HKEEP.out _ (Below.refl _ _).drew)
          (fail)
        go_wp2_with fail
        go_roundw
        case rel => exact ⟨j + 1, by go_num, by have := HJF.out; omega, HB.out.drew⟩
        case measure => simp [intOf]; have := HJF.out; omega
      · have HC9 := Lib.hid (HAW.out wr (HB4.out.trans (hB.mono HB4.out.size)))
        clear hB
        go_wp2_with (go_at_call 13; (with_reducible refine HC9.out.mono ?_); rintro e9 w9 ⟨rfl, hB⟩; have HB9 := Lib.hid (HB4.out.trans ((HB.out.trans (hB.mono HB.out.size)).mono HB4.out.size)); clear hB)
        go_ret
        exact ⟨rfl, HB9.out⟩
end Go.Proofs.YtofpdhkdnbnobaaDoor
