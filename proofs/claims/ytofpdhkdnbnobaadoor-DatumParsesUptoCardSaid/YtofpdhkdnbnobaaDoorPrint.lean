/-
  Print (walk). Not a statement of the seat.
-/
import Derived.Test.YtofpdhkdnbnobaaDoorPut
namespace Go.Proofs.YtofpdhkdnbnobaaDoor
open Go.RowKit

def prw (w : World) (d : Dt) (l : Option Addr) (n c : Nat) : World :=
  (w.alloc (.cells #[.int .i64 d.k, .int .i64 d.i, .int .u64 d.b, .string ⟨d.t.toArray⟩, .slice l n c] 25)).alloc (.cells #[.pointer none, .slice none 0 0] 55)
theorem prw_facts (w : World) (d : Dt) (l : Option Addr) (n c : Nat) : Blk (prw w d l n c) w.heap.size [.int .i64 d.k, .int .i64 d.i, .int .u64 d.b, .string ⟨d.t.toArray⟩, .slice l n c] ∧
    Bd (w.heap.size + 1) (w.heap.size + 1) [] (prw w d l n c) ∧ Below w.heap.size w (prw w d l n c) := by
  refine ⟨(Blk.new w _ _).alloc _, ?_, ((Below.refl _ w).alloc (Nat.le_refl _) _).alloc (by simp) _⟩
  have := Bd.new (w.alloc (.cells #[.int .i64 d.k, .int .i64 d.i, .int .u64 d.b, .string ⟨d.t.toArray⟩, .slice l n c] 25))
  simpa [prw] using this

set_option maxRecDepth 100000 in
theorem printN {S : Nat → Prop} {d : Dt} {l : Option Addr} {n c : Nat} {w : World} (hF : FoAt S w d.l l n c) (hS : ∀ x, S x → x < w.heap.size) (hL : Lb w) (hp : d.fo.plain) (hw : d.fo.wt ≤ big) :
    Calls Tryd.prog 14 #[.agg #[.int .i64 d.k, .int .i64 d.i, .int .u64 d.b, .string ⟨d.t.toArray⟩, .slice l n c]] w (fun e w' => e = .returned (.string ⟨(printM d).toArray⟩) ∧ Below w.heap.size w w') := by
  have HW := Lib.hid (prw_facts w d l n c)
  have hsz : w.heap.size + 1 < (prw w d l n c).heap.size := by simp [prw]
  have HC := Lib.hid (putG d.l d.k d.i d.b d.t l n c S (w.heap.size + 1) (w.heap.size + 1) [] (prw w d l n c) (hF.same (fun x hx hlt => HW.out.2.2.block x hlt) (fun x hx _ => hx)) (fun x hx => by have := hS x hx; omega) HW.out.2.1 (Nat.le_refl _) hsz
    (hL.below HW.out.2.2 hL.size) (by have := hL.size; omega) hp.1 hp.2.1 (by have : d.fo.wt = 4 * d.t.length + 110 + d.l.wt + 0 := rfl; show 0 + _ + _ + _ ≤ big; omega))
  clear hF hS hL hp hw hsz
  go_enter Tryd.func14, Tryd.ntmps14
  go_upto_region 2 with (fail)
  change Code.wp _ _ _ _ (prw w d l n c)
  generalize prw w d l n c = w1 at *
  have b0 := HW.out.1.cell 0 rfl
  have b1 := HW.out.1.cell 1 rfl
  have b2 := HW.out.1.cell 2 rfl
  have b3 := HW.out.1.cell 3 rfl
  have b4 := HW.out.1.cell 4 rfl
  go_wp2_with (first
    | (go_at_call 34; (with_reducible refine HC.out.mono ?_); rintro e2 w2 ⟨rfl, hB, hK⟩
       have HC2 := Lib.hid (stringN hB)
       have HK := Lib.hid hK
       clear hB hK b0 b1 b2 b3 b4)
    | (go_at_call 35; (with_reducible refine HC2.out.mono ?_); rintro e3 w3 ⟨rfl, hB, hK⟩))
  go_ret
  exact ⟨rfl, (HW.out.2.2.trans (HK.out.below.mono (Nat.le_succ _))).trans (hK.below.mono (Nat.le_succ _))⟩

theorem wake_plain : wakeD.fo.plain := by simp [Fo.plain, wakeD, Dt.fo]
theorem wake_wt : wakeD.fo.wt ≤ big := by simp [Fo.wt, wakeD, Dt.fo, big]
theorem wakeV (w : World) (hL : Lb w) : Calls Tryd.prog 15 #[.string ⟨#[91, 49, 44, 32, 34, 97, 34, 93]⟩] w (PP ⟨#[91, 49, 44, 32, 34, 97, 34, 93]⟩ w (.ok wakeD 8)) := by
  have h := parseV (S := ⟨#[91, 49, 44, 32, 34, 97, 34, 93]⟩) (f := 20) (w := w) (valueAll (by decide) 20) hL (by
    have : valueM (⟨#[91, 49, 44, 32, 34, 97, 34, 93]⟩ : ByteArray).data.toList 20 0 0 = .ok wakeD 8 := wake_value
    rw [this]; simp)
  have h2 : valueM (⟨#[91, 49, 44, 32, 34, 97, 34, 93]⟩ : ByteArray).data.toList 20 0 0 = .ok wakeD 8 := wake_value
  rw [h2] at h
  exact h
set_option maxRecDepth 100000 in
theorem awakeT {w : World} (hL : Lb w) : Calls Tryd.prog 13 #[] w (fun e w' => e = .returned (.bool true) ∧ Below w.heap.size w w') := by
  have HC := Lib.hid (wakeV w hL)
  have HL := Lib.hid hL
  clear hL
  go_enter Tryd.func13, Tryd.ntmps13
  go_wp2_with (first
    | (go_at_call 15; (with_reducible refine HC.out.mono ?_); rintro e1 w1 ⟨d, err, l, n, c, rfl, hF, hB, hcase⟩
       obtain ⟨rfl, rfl⟩ : err = 0 ∧ d = wakeD := by
         rcases hcase with ⟨h1, b, h2, _⟩ | ⟨_, _, h⟩
         · cases h2; exact ⟨h1, rfl⟩
         · exact absurd ⟨rfl, wake_validD⟩ (h wakeD 8 rfl)
       have hab : Below w1.heap.size w1 (w1.alloc (.cells #[.int .i64 wakeD.k, .int .i64 wakeD.i, .int .u64 wakeD.b, .string ⟨wakeD.t.toArray⟩, .slice l n c] 25)) := (Below.refl _ _).alloc (Nat.le_refl _) _
       have hF1 : FoAt (fun x => x < w1.heap.size) (w1.alloc (.cells #[.int .i64 wakeD.k, .int .i64 wakeD.i, .int .u64 wakeD.b, .string ⟨wakeD.t.toArray⟩, .slice l n c] 25)) wakeD.l l n c := hF.same (fun x hx hlt => hab.block x hlt) (fun x hx hlt => hlt)
       have HF1 := Lib.hid hF1
       have HV := Lib.hid (validN hF1 (fun x hx => Nat.lt_of_lt_of_le hx hab.size))
       have HX := Lib.hid (Blk.new w1 #[.int .i64 wakeD.k, .int .i64 wakeD.i, .int .u64 wakeD.b, .string ⟨wakeD.t.toArray⟩, .slice l n c] 25)
       have HB1 := Lib.hid (hB.trans (hab.mono hB.size))
       have HAB := Lib.hid hab
       clear hcase hab hF1 hF hB)
    | (go_at_call 19; (with_reducible refine HV.out.mono ?_); rintro e2 w2 ⟨rfl, hB⟩; rw [wake_validD]
       have hx2 := HX.out.below hB
       have x0 := hx2.cell 0 rfl; have x1 := hx2.cell 1 rfl; have x2 := hx2.cell 2 rfl; have x3 := hx2.cell 3 rfl; have x4 := hx2.cell 4 rfl
       have HB2 := Lib.hid (HB1.out.trans (hB.mono HB1.out.size))
       have HP := Lib.hid (printN (HF1.out.same (S' := fun x => x < w1.heap.size) (fun x hx hlt => hB.block x hlt) (fun x hx _ => hx)) (fun x hx => Nat.lt_of_lt_of_le hx (Nat.le_trans HAB.out.size hB.size)) (HL.out.below HB2.out HL.out.size) wake_plain wake_wt)
       clear hB hx2)
    | (go_at_call 14; (with_reducible refine HP.out.mono ?_); rintro e3 w3 ⟨rfl, hB⟩; rw [wake_print]
       have HB3 := Lib.hid (HB2.out.trans (hB.mono HB2.out.size))
       clear hB))
  go_ret
  exact ⟨rfl, HB3.out⟩
end Go.Proofs.YtofpdhkdnbnobaaDoor
