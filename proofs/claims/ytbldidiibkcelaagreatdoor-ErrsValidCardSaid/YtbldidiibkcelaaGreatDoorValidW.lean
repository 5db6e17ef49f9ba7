/-
  Valid and Parts of the code and of the document; the law DatumValid (walks). Not a statement of the seat.
-/
import Derived.Test.YtbldidiibkcelaaGreatDoorLaw1
namespace Go.Proofs.YtbldidiibkcelaaGreatDoor
open Go.RowKit

def boxD (w : World) (d : Dt) (l : Option Addr) (n c : Nat) : World := w.alloc (.cells #[.int .i64 d.k, .int .i64 d.i, .int .u64 d.b, .string ⟨d.t.toArray⟩, .slice l n c] 25)
def vsD (d : Dt) (l : Option Addr) (n c : Nat) : List Value := [.int .i64 d.k, .int .i64 d.i, .int .u64 d.b, .string ⟨d.t.toArray⟩, .slice l n c]
theorem boxD_blk (w : World) (d : Dt) (l : Option Addr) (n c : Nat) : Blk (boxD w d l n c) w.heap.size (vsD d l n c) := Blk.new w _ _
theorem boxD_below (w : World) (d : Dt) (l : Option Addr) (n c : Nat) : Below w.heap.size w (boxD w d l n c) := (Below.refl _ _).alloc (Nat.le_refl _) _

set_option maxRecDepth 100000 in
theorem rvalidN {S : Nat → Prop} {d : Dt} {l : Option Addr} {n c : Nat} {w : World} (hF : FoAt S w d.l l n c) (hS : ∀ x, S x → x < w.heap.size) :
    Calls Tryz.prog 77 #[.agg #[.int .i64 d.k, .int .i64 d.i, .int .u64 d.b, .string ⟨d.t.toArray⟩, .slice l n c]] w (fun e w' => e = .returned (.bool (rvalidM d)) ∧ Below w.heap.size w w') := by
  have hW := boxD_blk w d l n c
  have HBW := Lib.hid (boxD_below w d l n c)
  have hlen := hF.len
  have HF := Lib.hid hF
  have HS := Lib.hid hS
  have HC := Lib.hid (countG d.l d.k d.i d.b d.t l n c S 1 4096 (boxD w d l n c) (hF.same (fun x hx hlt => HBW.out.block x hlt) (fun x hx _ => hx)) (fun x hx => Nat.lt_of_lt_of_le (hS x hx) HBW.out.size) (by omega) (by omega))
  generalize hr : rvalidM d = rv
  unfold rvalidM at hr
  rw [hlen] at hr
  have hle := cntM_le d.l 1 4096 (by omega)
  generalize cntM d.l 1 4096 = r at *
  obtain ⟨r1, r2⟩ := r
  replace hr : (decide (r1 ≤ 4096) && (decide (r2 ≤ 16) && (fitsM d.k d.i d.b d.t n && rightM d.l))) = rv := hr
  have HR := Lib.hid hr
  have HSB := Lib.hid (boxD_below w d l n c)
  clear hF hS hr hlen hle
  go_enter Tryz.func77, Tryz.ntmps77
  go_upto_region 1 with (fail)
  change Code.wp _ _ _ _ (boxD w d l n c)
  generalize boxD w d l n c = w1 at *
  have b0 := hW.cell 0 rfl
  have b1 := hW.cell 1 rfl
  have b2 := hW.cell 2 rfl
  have b3 := hW.cell 3 rfl
  have b4 := hW.cell 4 rfl
  have HW := Lib.hid hW
  clear hW
  by_cases h1 : r1 ≤ 4096
  · have h1i : (r1 : Int) ≤ 4096 := by omega
    by_cases h2 : r2 ≤ 16
    · have h2i : (r2 : Int) ≤ 16 := by omega
      go_wp2_with (first
        | (go_at_call 99; refine HC.out.mono ?_; rintro e2 w2 ⟨rfl, hB⟩
           have x0 := cellAt hB b0; have x1 := cellAt hB b1; have x2 := cellAt hB b2; have x3 := cellAt hB b3; have x4 := cellAt hB b4
           have HB2 := Lib.hid (HBW.out.trans (hB.mono HBW.out.size))
           have HC3 := Lib.hid (rightG d.l d.k d.i d.b d.t l n c S w2 (HF.out.same (fun x hx hlt => HB2.out.block x hlt) (fun x hx _ => hx)) (fun x hx => Nat.lt_of_lt_of_le (HS.out x hx) HB2.out.size))
           clear hB b0 b1 b2 b3 b4)
        | (go_at_call 100; (with_reducible refine HC3.out.mono ?_); rintro e3 w3 ⟨rfl, hB⟩; have HB3 := Lib.hid (HB2.out.trans (hB.mono HB2.out.size)); clear hB))
      go_ret
      exact ⟨by rw [← HR.out]; simp [h1, h2], HB3.out⟩
    · have h2i : ¬ (r2 : Int) ≤ 16 := by omega
      go_wp2_with (go_at_call 99; refine HC.out.mono ?_; rintro e2 w2 ⟨rfl, hB⟩; have HB2 := Lib.hid (HBW.out.trans (hB.mono HBW.out.size)); clear hB b0 b1 b2 b3 b4)
      go_ret
      exact ⟨by rw [← HR.out]; simp [h2], HB2.out⟩
  · have h1i : ¬ (r1 : Int) ≤ 4096 := by omega
    go_wp2_with (go_at_call 99; refine HC.out.mono ?_; rintro e2 w2 ⟨rfl, hB⟩; have HB2 := Lib.hid (HBW.out.trans (hB.mono HBW.out.size)); clear hB b0 b1 b2 b3 b4)
    go_ret
    exact ⟨by rw [← HR.out]; simp [h1], HB2.out⟩

theorem rpartsN {S : Nat → Prop} {d : Dt} {l : Option Addr} {n c : Nat} {w : World} (hF : FoAt S w d.l l n c) (hS : ∀ x, S x → x < w.heap.size) :
    Calls Tryz.prog 78 #[.agg #[.int .i64 d.k, .int .i64 d.i, .int .u64 d.b, .string ⟨d.t.toArray⟩, .slice l n c]] w (CP w (cntM d.l 1 4096)) := by
  have hW := boxD_blk w d l n c
  have HBW := Lib.hid (boxD_below w d l n c)
  have HC := Lib.hid (countG d.l d.k d.i d.b d.t l n c S 1 4096 (boxD w d l n c) (hF.same (fun x hx hlt => HBW.out.block x hlt) (fun x hx _ => hx)) (fun x hx => Nat.lt_of_lt_of_le (hS x hx) HBW.out.size) (by omega) (by omega))
  clear hF hS
  go_enter Tryz.func78, Tryz.ntmps78
  go_upto_region 1 with (fail)
  change Code.wp _ _ _ _ (boxD w d l n c)
  generalize boxD w d l n c = w1 at *
  have b0 := hW.cell 0 rfl
  have b1 := hW.cell 1 rfl
  have b2 := hW.cell 2 rfl
  have b3 := hW.cell 3 rfl
  have b4 := hW.cell 4 rfl
  clear hW
  generalize cntM d.l 1 4096 = r at *
  obtain ⟨r1, r2⟩ := r
  go_wp2_with (go_at_call 99; refine HC.out.mono ?_; rintro e2 w2 ⟨rfl, hB⟩; have HB2 := Lib.hid (HBW.out.trans (hB.mono HBW.out.size)); clear hB b0 b1 b2 b3 b4)
  go_ret2
  exact ⟨rfl, HB2.out⟩

set_option maxRecDepth 100000 in
theorem partsN {S : Nat → Prop} {d : Dt} {l : Option Addr} {n c : Nat} {w : World} (hF : FoAt S w d.l l n c) (hS : ∀ x, S x → x < w.heap.size) :
    Calls Tryz.prog 87 #[.agg #[.int .i64 d.k, .int .i64 d.i, .int .u64 d.b, .string ⟨d.t.toArray⟩, .slice l n c]] w (CP w ((lookM d.fo 1 0 0).2.1, (lookM d.fo 1 0 0).2.2)) := by
  have hW := Lib.hid (v3_facts w d l n c)
  have HF := Lib.hid hF
  have HS := Lib.hid hS
  clear hF hS
  go_enter Tryz.func87, Tryz.ntmps87
  go_upto_region 2 with (fail)
  change Code.wp _ _ _ _ (v3 w d l n c)
  generalize hv3 : v3 w d l n c = w3 at *
  have b0 := hW.out.1.cell 0 rfl
  have b1 := hW.out.1.cell 1 rfl
  have b2 := hW.out.1.cell 2 rfl
  have b3 := hW.out.1.cell 3 rfl
  have b4 := hW.out.1.cell 4 rfl
  have HC := Lib.hid (lookG d.l d.k d.i d.b d.t l n c S (w.heap.size + 1) (w.heap.size + 1 + 1) 0 0 1 w3 (HF.out.same (fun x hx hlt => hW.out.2.2.2.block x hlt) (fun x hx _ => hx)) hW.out.2.1 hW.out.2.2.1 (by omega)
    (fun h => by have := HS.out _ h; omega) (fun h => by have := HS.out _ h; omega) (by omega) (by omega))
  rw [show Fo.cons d.k d.i d.b d.t d.l .nil = d.fo from rfl] at HC
  clear hv3
  generalize lookM d.fo 1 0 0 = r at *
  obtain ⟨r0, r1, r2⟩ := r
  go_wp2_with (go_at_call 106; refine HC.out.mono ?_; rintro e w4 ⟨rfl, ⟨hP4, hM4⟩, hK4⟩; have y0 := hP4.cell 0 rfl; have y1 := hM4.cell 0 rfl; have HK := Lib.hid hK4; clear hP4 hM4 hK4 b0 b1 b2 b3 b4)
  go_quiet (fail)
  go_wp2_with fail
  go_ret2
  exact ⟨rfl, (hW.out.2.2.2.trans (HK.out.below (Nat.le_of_lt (Nat.lt_of_lt_of_le (Nat.lt_succ_self _) (Nat.le_of_lt hW.out.2.1.lt))) (fun b hb e => by rcases e with e | e <;> omega))).trans (below_drewN _ _ _)⟩

end Go.Proofs.YtbldidiibkcelaaGreatDoor
