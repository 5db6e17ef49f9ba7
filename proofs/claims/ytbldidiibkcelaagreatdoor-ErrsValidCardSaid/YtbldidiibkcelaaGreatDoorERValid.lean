/-
  The document's Valid of an error (walk). Not a statement of the seat.
-/
import Derived.Test.YtbldidiibkcelaaGreatDoorERight
import Derived.Test.YtbldidiibkcelaaGreatDoorECount
namespace Go.Proofs.YtbldidiibkcelaaGreatDoor
open Go.RowKit

set_option maxHeartbeats 8000000 in
set_option maxRecDepth 100000 in
theorem ervalidN {S : Nat → Prop} {k i c : Int} {t : Bs} {b : Dt} {cs : List Int} {kids : Eo} {bl : Option Addr} {bn bc : Nat} {cl : Option Addr} {cn cc : Nat} {l : Option Addr} {n cap : Nat} {w : World} (hE : ErAt S w ⟨k, i, c, t, b, cs, kids⟩ bl bn bc cl cn cc l n cap)
    (hS : ∀ x, S x → x < w.heap.size) (hcs : cs.length ≤ 140737488355328) (hks : kids.small) :
    Calls Tryz.prog 10 #[vE k i c t b bl bn bc cl cn cc l n cap] w (fun r w' => r = .returned (.bool (ervalidM ⟨k, i, c, t, b, cs, kids⟩)) ∧ Below w.heap.size w w') := by
  have hrr : ervalidM ⟨k, i, c, t, b, cs, kids⟩ = (decide (ecnt kids 1 4096 ≤ 4096) && (rright1 k i c t b cs kids && decide (ewtL kids (rwtE k b cs) ≤ 4096))) := rfl
  generalize ervalidM ⟨k, i, c, t, b, cs, kids⟩ = res at *
  have HM := Lib.hid hrr
  clear hrr
  have hA := ebox_blk w k i c t b bl bn bc cl cn cc l n cap
  have hBA := ebox_below w k i c t b bl bn bc cl cn cc l n cap
  have hW := ewtL_le kids (rwtE k b cs) 140737488359425 hks (by omega) (by unfold rwtE; have := rsizeD_le b; split <;> omega) (by omega)
  have hN := ecnt_le kids 1 4096 (by omega)
  unfold vE
  go_enter Tryz.func10, Tryz.ntmps10
  go_upto_region 1 with (fail)
  change Code.wp _ _ _ _ (ebox w k i c t b bl bn bc cl cn cc l n cap)
  generalize ebox w k i c t b bl bn bc cl cn cc l n cap = w1 at *
  have HC1 := Lib.hid (fun (wx : World) (hx : Below w.heap.size w wx) => show Calls Tryz.prog 38 #[vE k i c t b bl bn bc cl cn cc l n cap, .int .i64 1, .int .i64 4096] wx (fun e w' => e = .returned (.int .i64 (ecnt kids 1 4096 : Nat)) ∧ Below wx.heap.size wx w') from ecountG kids k i c t b bl bn bc cl cn cc l n cap S 1 4096 wx (hE.same (fun x _ hlt => hx.block x hlt) (fun x hx _ => hx)).2.2 (fun x hx' => Nat.lt_of_lt_of_le (hS x hx') hx.size) (by omega) (by omega))
  have HC2 := Lib.hid (fun (wx : World) (hx : Below w.heap.size w wx) => erightG kids k i c t b cs bl bn bc cl cn cc l n cap S wx (hE.same (fun x _ hlt => hx.block x hlt) (fun x hx _ => hx)) (fun x hx' => Nat.lt_of_lt_of_le (hS x hx') hx.size))
  have HC3 := Lib.hid (fun (wx : World) (hx : Below w.heap.size w wx) => eweightG kids k i c t b cs bl bn bc cl cn cc l n cap S wx (hE.same (fun x _ hlt => hx.block x hlt) (fun x hx _ => hx)) (fun x hx' => Nat.lt_of_lt_of_le (hS x hx') hx.size) hcs hks)
  unfold vE at HC1 HC2 HC3
  have HX := Lib.hid hA
  have HB := Lib.hid hBA
  have x0 := hA.cell 0 rfl; have x1 := hA.cell 1 rfl; have x2 := hA.cell 2 rfl; have x3 := hA.cell 3 rfl; have x4 := hA.cell 4 rfl; have x5 := hA.cell 5 rfl; have x6 := hA.cell 6 rfl; have x7 := hA.cell 7 rfl; have x8 := hA.cell 8 rfl; have x9 := hA.cell 9 rfl; have x10 := hA.cell 10 rfl
  clear hA hBA hE hS hcs hks
  generalize ecnt kids 1 4096 = N at *
  generalize ewtL kids (rwtE k b cs) = WT at *
  generalize rright1 k i c t b cs kids = R at *
  by_cases hN1 : N ≤ 4096
  · have hj : (N : Int) ≤ 4096 := by omega
    cases R
    · go_wp2_with (first
        | (go_at_call 38; (with_reducible refine (HC1.out _ HB.out).mono ?_); rintro e2 w2 ⟨rfl, hB⟩; have HB2 := Lib.hid (HB.out.trans (hB.mono HB.out.size)); have hx := HX.out.below hB; have y0 := hx.cell 0 rfl; have y1 := hx.cell 1 rfl; have y2 := hx.cell 2 rfl; have y3 := hx.cell 3 rfl; have y4 := hx.cell 4 rfl; have y5 := hx.cell 5 rfl; have y6 := hx.cell 6 rfl; have y7 := hx.cell 7 rfl; have y8 := hx.cell 8 rfl; have y9 := hx.cell 9 rfl; have y10 := hx.cell 10 rfl; have HX2 := Lib.hid hx; clear hB hx x0 x1 x2 x3 x4 x5 x6 x7 x8 x9 x10)
        | (go_at_call 39; (with_reducible refine (HC2.out _ HB2.out).mono ?_); rintro e3 w3 ⟨rfl, hB⟩; have HB3 := Lib.hid (HB2.out.trans (hB.mono HB2.out.size)); clear hB))
      go_ret
      exact ⟨by rw [HM.out]; simp, HB3.out⟩
    · by_cases hW1 : WT ≤ 4096
      · have hjw : (WT : Int) ≤ 4096 := by omega
        go_wp2_with (first
          | (go_at_call 38; (with_reducible refine (HC1.out _ HB.out).mono ?_); rintro e2 w2 ⟨rfl, hB⟩; have HB2 := Lib.hid (HB.out.trans (hB.mono HB.out.size)); have hx := HX.out.below hB; have y0 := hx.cell 0 rfl; have y1 := hx.cell 1 rfl; have y2 := hx.cell 2 rfl; have y3 := hx.cell 3 rfl; have y4 := hx.cell 4 rfl; have y5 := hx.cell 5 rfl; have y6 := hx.cell 6 rfl; have y7 := hx.cell 7 rfl; have y8 := hx.cell 8 rfl; have y9 := hx.cell 9 rfl; have y10 := hx.cell 10 rfl; have HX2 := Lib.hid hx; clear hB hx x0 x1 x2 x3 x4 x5 x6 x7 x8 x9 x10)
          | (go_at_call 39; (with_reducible refine (HC2.out _ HB2.out).mono ?_); rintro e3 w3 ⟨rfl, hB⟩; have HB3 := Lib.hid (HB2.out.trans (hB.mono HB2.out.size)); have hx := HX2.out.below hB; have z0 := hx.cell 0 rfl; have z1 := hx.cell 1 rfl; have z2 := hx.cell 2 rfl; have z3 := hx.cell 3 rfl; have z4 := hx.cell 4 rfl; have z5 := hx.cell 5 rfl; have z6 := hx.cell 6 rfl; have z7 := hx.cell 7 rfl; have z8 := hx.cell 8 rfl; have z9 := hx.cell 9 rfl; have z10 := hx.cell 10 rfl; clear hB hx y0 y1 y2 y3 y4 y5 y6 y7 y8 y9 y10)
          | (go_at_call 40; (with_reducible refine (HC3.out _ HB3.out).mono ?_); rintro e4 w4 ⟨rfl, hB⟩; have HB4 := Lib.hid (HB3.out.trans (hB.mono HB3.out.size)); clear hB))
        go_ret
        exact ⟨by rw [HM.out]; simp [hN1, hW1], HB4.out⟩
      · have hjw : ¬ (WT : Int) ≤ 4096 := by omega
        go_wp2_with (first
          | (go_at_call 38; (with_reducible refine (HC1.out _ HB.out).mono ?_); rintro e2 w2 ⟨rfl, hB⟩; have HB2 := Lib.hid (HB.out.trans (hB.mono HB.out.size)); have hx := HX.out.below hB; have y0 := hx.cell 0 rfl; have y1 := hx.cell 1 rfl; have y2 := hx.cell 2 rfl; have y3 := hx.cell 3 rfl; have y4 := hx.cell 4 rfl; have y5 := hx.cell 5 rfl; have y6 := hx.cell 6 rfl; have y7 := hx.cell 7 rfl; have y8 := hx.cell 8 rfl; have y9 := hx.cell 9 rfl; have y10 := hx.cell 10 rfl; have HX2 := Lib.hid hx; clear hB hx x0 x1 x2 x3 x4 x5 x6 x7 x8 x9 x10)
          | (go_at_call 39; (with_reducible refine (HC2.out _ HB2.out).mono ?_); rintro e3 w3 ⟨rfl, hB⟩; have HB3 := Lib.hid (HB2.out.trans (hB.mono HB2.out.size)); have hx := HX2.out.below hB; have z0 := hx.cell 0 rfl; have z1 := hx.cell 1 rfl; have z2 := hx.cell 2 rfl; have z3 := hx.cell 3 rfl; have z4 := hx.cell 4 rfl; have z5 := hx.cell 5 rfl; have z6 := hx.cell 6 rfl; have z7 := hx.cell 7 rfl; have z8 := hx.cell 8 rfl; have z9 := hx.cell 9 rfl; have z10 := hx.cell 10 rfl; clear hB hx y0 y1 y2 y3 y4 y5 y6 y7 y8 y9 y10)
          | (go_at_call 40; (with_reducible refine (HC3.out _ HB3.out).mono ?_); rintro e4 w4 ⟨rfl, hB⟩; have HB4 := Lib.hid (HB3.out.trans (hB.mono HB3.out.size)); clear hB))
        go_ret
        exact ⟨by rw [HM.out]; simp [hN1, hW1, hjw], HB4.out⟩
  · have hj : ¬ (N : Int) ≤ 4096 := by omega
    go_wp2_with (go_at_call 38; (with_reducible refine (HC1.out _ HB.out).mono ?_); rintro e2 w2 ⟨rfl, hB⟩; have HB2 := Lib.hid (HB.out.trans (hB.mono HB.out.size)); clear hB)
    go_ret
    exact ⟨by rw [HM.out]; simp [hN1], HB2.out⟩
end Go.Proofs.YtbldidiibkcelaaGreatDoor
