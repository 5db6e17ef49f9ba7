/-
  DatumParses (walk): of any text that is not too long. Not a statement of the seat.
-/
import Derived.Test.YtofpdhkdnbnobaaDoorRParse
import Derived.Test.YtofpdhkdnbnobaaDoorFuel
import Derived.Test.YtofpdhkdnbnobaaDoorPrints
namespace Go.Proofs.YtofpdhkdnbnobaaDoor
open Go.RowKit

/-- the two Parses come to one -/
theorem pp_one {S : ByteArray} {res : Res Dt} {d d' : Dt} {err err' : Int}
    (h : (err = 0 ∧ ∃ b, res = .ok d b ∧ b = S.size ∧ validD d = true) ∨ (err = 14 ∧ d = Dt.zero ∧ ∀ d' b, res = .ok d' b → ¬ (b = S.size ∧ validD d' = true)))
    (h' : (err' = 0 ∧ ∃ b, res = .ok d' b ∧ b = S.size ∧ validD d' = true) ∨ (err' = 14 ∧ d' = Dt.zero ∧ ∀ d' b, res = .ok d' b → ¬ (b = S.size ∧ validD d' = true))) : err = err' ∧ d = d' := by
  rcases h with ⟨rfl, b, h1, h2, h3⟩ | ⟨rfl, rfl, h1⟩
  · rcases h' with ⟨rfl, b', h4, h5, h6⟩ | ⟨rfl, rfl, h4⟩
    · rw [h1] at h4
      cases h4
      exact ⟨rfl, rfl⟩
    · exact absurd ⟨h2, h3⟩ (h4 _ _ h1)
  · rcases h' with ⟨rfl, b', h4, h5, h6⟩ | ⟨rfl, rfl, h4⟩
    · exact absurd ⟨h5, h6⟩ (h1 _ _ h4)
    · exact ⟨rfl, rfl⟩

set_option maxRecDepth 100000 in
set_option maxHeartbeats 8000000 in
theorem parsesT {S : ByteArray} {w : World} (hS : S.size ≤ 1000000000000) (hL : Lb w) :
    Calls Tryd.prog 4 #[.string S] w (fun e w' => e = .returned (.bool true) ∧ Below w.heap.size w w') := by
  obtain ⟨f, ho⟩ := fuel S.data.toList 0 0
  have HL := Lib.hid hL
  have HAW := Lib.hid (fun (wx : World) (hx : Below w.heap.size w wx) => awakeT (HL.out.below hx HL.out.size))
  have HC1 := Lib.hid (parseV (S := S) (f := f) (w := w) (valueAll hS f) hL ho)
  have HP2 := Lib.hid (fun (wx : World) (hx : Below w.heap.size w wx) => rparseN (S := S) (f := f) (w := wx) hS (HL.out.below hx HL.out.size) ho)
  generalize valueM S.data.toList f 0 0 = res at *
  clear hL ho
  go_enter Tryd.func4, Tryd.ntmps4
  go_upto_region 2 with (go_at_call 15; (with_reducible refine HC1.out.mono ?_); rintro e1 w1 ⟨d, err, l1, n1, c1, rfl, hF, hB, hcase⟩; have HF := Lib.hid hF; have HB1 := Lib.hid hB; have HCA := Lib.hid hcase; clear hF hB hcase)
  change Code.wp _ _ _ _ (boxD w1 d l1 n1 c1)
  have hab : Below w1.heap.size w1 (boxD w1 d l1 n1 c1) := boxD_below w1 d l1 n1 c1
  have HB2 := Lib.hid (HB1.out.trans (hab.mono HB1.out.size))
  have HX := Lib.hid (boxD_blk w1 d l1 n1 c1)
  have HA := Lib.hid (show Ar (fun x => x < (boxD w1 d l1 n1 c1).heap.size) (boxD w1 d l1 n1 c1) d l1 n1 c1 from ⟨HF.out.same (fun x hx hlt => hab.block x hlt) (fun x _ hlt => Nat.lt_of_lt_of_le hlt hab.size), fun x hx => hx⟩)
  clear hab
  generalize boxD w1 d l1 n1 c1 = w2 at *
  have HC2 := Lib.hid (HP2.out w2 HB2.out)
  go_upto_region 3 with (go_at_call 18; (with_reducible refine HC2.out.mono ?_); rintro e3 w3 ⟨d', err', l3, n3, c3, rfl, hF, hB, hcase⟩; obtain ⟨rfl, rfl⟩ := pp_one HCA.out hcase; have HF3 := Lib.hid hF; have HB3 := Lib.hid (HB2.out.trans (hB.mono HB2.out.size)); have HX3 := Lib.hid (HX.out.below hB); have HA3 := Lib.hid (HA.out.below hB); clear hF hB hcase)
  change Code.wp _ _ _ _ (boxD w3 d l3 n3 c3)
  have hab : Below w3.heap.size w3 (boxD w3 d l3 n3 c3) := boxD_below w3 d l3 n3 c3
  have HB4 := Lib.hid (HB3.out.trans (hab.mono HB3.out.size))
  have HY := Lib.hid (boxD_blk w3 d l3 n3 c3)
  have HX4 := Lib.hid (HX3.out.below hab)
  have HA4 := Lib.hid (HA3.out.below hab)
  have HA5 := Lib.hid (show Ar (fun x => x < (boxD w3 d l3 n3 c3).heap.size) (boxD w3 d l3 n3 c3) d l3 n3 c3 from ⟨HF3.out.same (fun x hx hlt => hab.block x hlt) (fun x _ hlt => Nat.lt_of_lt_of_le hlt hab.size), fun x hx => hx⟩)
  clear hab
  generalize boxD w3 d l3 n3 c3 = w4 at *
  have hx := HX4.out
  have x0 := hx.cell 0 rfl; have x1 := hx.cell 1 rfl; have x2 := hx.cell 2 rfl; have x3 := hx.cell 3 rfl; have x4 := hx.cell 4 rfl
  have hy := HY.out
  have y0 := hy.cell 0 rfl; have y1 := hy.cell 1 rfl; have y2 := hy.cell 2 rfl; have y3 := hy.cell 3 rfl; have y4 := hy.cell 4 rfl
  have hsm : (headM d.k d.i d.b d.t n1 d.k d.i d.b d.t n3 && sameM d.l d.l) = true := (same_iff HA4.out.at'.len HA5.out.at'.len).2 rfl
  have hC5 := HA4.out.rsame' HA5.out
  rw [hsm] at hC5
  have HC5 := Lib.hid hC5
  clear hx hy hsm hC5
  go_wp2_with (first
    | (go_at_call 17; (with_reducible refine HC5.out.mono ?_); rintro e7 w7 ⟨rfl, hB⟩
       have HB7 := Lib.hid (HB4.out.trans (hB.mono HB4.out.size))
       have HC6 := Lib.hid (HAW.out w7 HB7.out)
       clear hB)
    | (go_at_call 13; (with_reducible refine HC6.out.mono ?_); rintro e8 w8 ⟨rfl, hB⟩; have HB8 := Lib.hid (HB7.out.trans (hB.mono HB7.out.size)); clear hB))
  go_ret
  exact ⟨rfl, HB8.out⟩
end Go.Proofs.YtofpdhkdnbnobaaDoor
