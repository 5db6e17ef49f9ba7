/-
  DatumPrints (walk). Not a statement of the seat.
-/
import Derived.Test.YtofpdhkdnbnobaaDoorRPrint
namespace Go.Proofs.YtofpdhkdnbnobaaDoor
open Go.RowKit

theorem rprintAll : ∀ f : Fo, f.All RPOK
  | .nil => trivial
  | .cons _ _ _ _ kids rest => ⟨rprintN (rprintAll kids), rprintAll rest⟩
theorem rprintG (kids : Fo) : RPOK kids := rprintN (rprintAll kids)
section
variable {S : Nat → Prop} {w wx : World} {d : Dt} {l : Option Addr} {n c : Nat}
theorem Ar.rprint (h : Ar S w d l n c) (hL : Lb w) (hp : d.fo.plain) (ho : okD d) : Calls Tryd.prog 16 #[.agg #[.int .i64 d.k, .int .i64 d.i, .int .u64 d.b, .string ⟨d.t.toArray⟩, .slice l n c]] w (fun e w' => e = .returned (.string ⟨(printM d).toArray⟩) ∧ Below w.heap.size w w') := by
  have h3 := ho.2.2
  rw [right_fo, Bool.and_eq_true] at h3
  refine rprintG d.l d.k d.i d.b d.t l n c S w h.at' h.lt hL h3.1 h3.2 hp.1 hp.2.1 ?_
  have := wt_ok ho
  have hw : d.fo.wt = 4 * d.t.length + 110 + d.l.wt + 0 := rfl
  omega
/-- values of two readings -/
theorem Ar.rsame' {S' : Nat → Prop} {d' : Dt} {l' : Option Addr} {n' c' : Nat} (h : Ar S w d l n c) (h' : Ar S' w d' l' n' c') : Calls Tryd.prog 17 #[.agg #[.int .i64 d.k, .int .i64 d.i, .int .u64 d.b, .string ⟨d.t.toArray⟩, .slice l n c], .agg #[.int .i64 d'.k, .int .i64 d'.i, .int .u64 d'.b, .string ⟨d'.t.toArray⟩, .slice l' n' c']] w
    (fun e w' => e = .returned (.bool (headM d.k d.i d.b d.t n d'.k d'.i d'.b d'.t n' && sameM d.l d'.l)) ∧ Below w.heap.size w w') :=
  rsameG d.l _ _ _ _ _ _ _ _ _ _ _ _ _ _ _ (fun x => S x ∨ S' x) w (h.at'.same (fun _ _ _ => rfl) (fun _ hx _ => .inl hx)) (h'.at'.same (fun _ _ _ => rfl) (fun _ hx _ => .inr hx)) (fun x hx => hx.elim (h.lt x) (h'.lt x))
/-- Parse of what Print printed -/
theorem parse_back (hp : d.fo.plain) (ho : okD d) (hL : Lb w) : Calls Tryd.prog 15 #[.string ⟨(printM d).toArray⟩] w (fun e w' => ∃ l n c, e = .returned (.tuple #[.agg #[.int .i64 d.k, .int .i64 d.i, .int .u64 d.b, .string ⟨d.t.toArray⟩, .slice l n c], .int .i64 0]) ∧ Ar (fun x => x < w'.heap.size) w' d l n c ∧ Below w.heap.size w w') := by
  have hb := print_back ho hp (f := d.fo.wt) (Nat.le_refl _)
  have hlen : (printM d).length ≤ d.fo.wt := by
    have := rowP_len d.fo true
    have h2 : rowP true d.fo = printM d := by simp [Dt.fo, rowP, printM]
    rw [h2] at this
    exact this
  have hw := wt_ok ho
  have hS : (⟨(printM d).toArray⟩ : ByteArray).size ≤ 1000000000000 := by show (printM d).length ≤ _; omega
  have h := parseV (S := ⟨(printM d).toArray⟩) (f := d.fo.wt) (w := w) (valueAll hS _) hL (by
    show valueM (printM d) _ 0 0 ≠ .out
    rw [hb]; simp)
  refine h.mono ?_
  rintro e w' ⟨d', err, l, n, c, rfl, hF, hB, hcase⟩
  rw [show valueM (⟨(printM d).toArray⟩ : ByteArray).data.toList d.fo.wt 0 0 = .ok d (printM d).length from hb] at hcase
  obtain ⟨rfl, rfl⟩ : err = 0 ∧ d' = d := by
    rcases hcase with ⟨h1, b, h2, _⟩ | ⟨_, _, h⟩
    · cases h2; exact ⟨h1, rfl⟩
    · exact absurd ⟨rfl, (valid_ok ho).1⟩ (h d (printM d).length rfl)
  exact ⟨l, n, c, rfl, ⟨hF.same (fun x _ _ => rfl) (fun x _ hlt => hlt), fun x hx => hx⟩, hB⟩
end

set_option maxRecDepth 100000 in
set_option maxHeartbeats 8000000 in
theorem printsT {S : Nat → Prop} {d : Dt} {l : Option Addr} {n c : Nat} {w : World} (hA : Ar S w d l n c) (hL : Lb w) (hp : d.fo.plain) :
    Calls Tryd.prog 3 #[.agg #[.int .i64 d.k, .int .i64 d.i, .int .u64 d.b, .string ⟨d.t.toArray⟩, .slice l n c]] w (fun e w' => e = .returned (.bool true) ∧ Below w.heap.size w w') := by
  have HX := boxD_blk w d l n c
  have HBW := Lib.hid (boxD_below w d l n c)
  have HA := Lib.hid hA
  have HL := Lib.hid hL
  have HP := Lib.hid hp
  have HAW := Lib.hid (fun (wx : World) (hx : Below w.heap.size w wx) => awakeT (HL.out.below hx HL.out.size))
  have hV := fun (wx : World) (hx : Below w.heap.size w wx) => (HA.out.below hx).valid
  have ho := rvalid_ok (d := d)
  generalize rvalidM d = v at *
  clear hA hL hp
  go_enter Tryd.func3, Tryd.ntmps3
  go_upto_region 1 with (fail)
  change Code.wp _ _ _ _ (boxD w d l n c)
  generalize boxD w d l n c = w1 at *
  have x0 := HX.cell 0 rfl
  have x1 := HX.cell 1 rfl
  have x2 := HX.cell 2 rfl
  have x3 := HX.cell 3 rfl
  have x4 := HX.cell 4 rfl
  have HC1 := Lib.hid (hV w1 HBW.out)
  clear HX hV
  cases v
  · clear ho
    go_wp2_with (first
      | (go_at_call 12; (with_reducible refine HC1.out.mono ?_); rintro e2 w2 ⟨rfl, hB⟩
         have HB2 := Lib.hid (HBW.out.trans (hB.mono HBW.out.size))
         have HC2 := Lib.hid (HAW.out w2 HB2.out)
         clear hB)
      | (go_at_call 13; (with_reducible refine HC2.out.mono ?_); rintro e3 w3 ⟨rfl, hB⟩; have HB3 := Lib.hid (HB2.out.trans (hB.mono HB2.out.size)); clear hB))
    go_ret
    exact ⟨rfl, HB3.out⟩
  replace ho := ho rfl
  have HO := Lib.hid ho
  have HPR := Lib.hid (fun (wx : World) (hx : Below w.heap.size w wx) => (HA.out.below hx).print (HL.out.below hx HL.out.size) HP.out ho)
  have HRP := Lib.hid (fun (wx : World) (hx : Below w.heap.size w wx) => (HA.out.below hx).rprint (HL.out.below hx HL.out.size) HP.out ho)
  have HPB := Lib.hid (fun (wx : World) (hx : Below w.heap.size w wx) => parse_back HP.out ho (HL.out.below hx HL.out.size))
  generalize printM d = pd at *
  clear ho
  go_upto_region 5 with (first
    | (go_at_call 12; (with_reducible refine HC1.out.mono ?_); rintro e2 w2 ⟨rfl, hB⟩
       have HB2 := Lib.hid (HBW.out.trans (hB.mono HBW.out.size))
       have HC2 := Lib.hid (HPR.out w2 HB2.out)
       replace x0 := cellAt hB x0; replace x1 := cellAt hB x1; replace x2 := cellAt hB x2; replace x3 := cellAt hB x3; replace x4 := cellAt hB x4
       clear hB)
    | (go_at_call 14; (with_reducible refine HC2.out.mono ?_); rintro e3 w3 ⟨rfl, hB⟩
       have HB3 := Lib.hid (HB2.out.trans (hB.mono HB2.out.size))
       have HC3 := Lib.hid (HPB.out w3 HB3.out)
       replace x0 := cellAt hB x0; replace x1 := cellAt hB x1; replace x2 := cellAt hB x2; replace x3 := cellAt hB x3; replace x4 := cellAt hB x4
       clear hB)
    | (go_at_call 15; (with_reducible refine HC3.out.mono ?_); rintro e4 w4 ⟨l2, n2, c2, rfl, hA2, hB⟩
       have HB4 := Lib.hid (HB3.out.trans (hB.mono HB3.out.size))
       have hab : Below w4.heap.size w4 (boxD w4 d l2 n2 c2) := boxD_below w4 d l2 n2 c2
       have HB5 := Lib.hid (HB4.out.trans (hab.mono HB4.out.size))
       have HA2 := Lib.hid (hA2.below hab)
       have HY := Lib.hid (boxD_blk w4 d l2 n2 c2)
       replace x0 := cellAt hB x0; replace x1 := cellAt hB x1; replace x2 := cellAt hB x2; replace x3 := cellAt hB x3; replace x4 := cellAt hB x4
       replace x0 := cellAt hab x0; replace x1 := cellAt hab x1; replace x2 := cellAt hab x2; replace x3 := cellAt hab x3; replace x4 := cellAt hab x4
       clear hB hab hA2))
  change Code.wp _ _ _ _ (boxD w4 d l2 n2 c2)
  generalize boxD w4 d l2 n2 c2 = w5 at *
  have HC4 := Lib.hid (HRP.out w5 HB5.out)
  have hy := HY.out
  have y0 := hy.cell 0 rfl
  have y1 := hy.cell 1 rfl
  have y2 := hy.cell 2 rfl
  have y3 := hy.cell 3 rfl
  have y4 := hy.cell 4 rfl
  have hsm : (headM d.k d.i d.b d.t n2 d.k d.i d.b d.t n && sameM d.l d.l) = true := (same_iff HA2.out.len HA.out.len).2 rfl
  have HSM := Lib.hid hsm
  clear hy hsm
  go_wp2_with (first
    | (go_at_call 16; (with_reducible refine HC4.out.mono ?_); rintro e6 w6 ⟨rfl, hB⟩
       have HB6 := Lib.hid (HB5.out.trans (hB.mono HB5.out.size))
       have hC5 := (HA2.out.below hB).rsame' (HA.out.below HB6.out)
       rw [HSM.out] at hC5
       have HC5 := Lib.hid hC5
       replace x0 := cellAt hB x0; replace x1 := cellAt hB x1; replace x2 := cellAt hB x2; replace x3 := cellAt hB x3; replace x4 := cellAt hB x4
       replace y0 := cellAt hB y0; replace y1 := cellAt hB y1; replace y2 := cellAt hB y2; replace y3 := cellAt hB y3; replace y4 := cellAt hB y4
       clear hB hC5)
    | (go_at_call 17; (with_reducible refine HC5.out.mono ?_); rintro e7 w7 ⟨rfl, hB⟩
       have HB7 := Lib.hid (HB6.out.trans (hB.mono HB6.out.size))
       have HC6 := Lib.hid (HAW.out w7 HB7.out)
       clear hB)
    | (go_at_call 13; (with_reducible refine HC6.out.mono ?_); rintro e8 w8 ⟨rfl, hB⟩; have HB8 := Lib.hid (HB7.out.trans (hB.mono HB7.out.size)); clear hB))
  go_ret
  exact ⟨rfl, HB8.out⟩
end Go.Proofs.YtofpdhkdnbnobaaDoor
