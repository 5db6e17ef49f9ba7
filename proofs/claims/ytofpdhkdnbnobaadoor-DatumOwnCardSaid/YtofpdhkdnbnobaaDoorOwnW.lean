/-
  DatumOwn (walk). Not a statement of the seat.
-/
import Derived.Test.YtofpdhkdnbnobaaDoorOpenD
import Derived.Test.YtofpdhkdnbnobaaDoorEquals
namespace Go.Proofs.YtofpdhkdnbnobaaDoor
open Go.RowKit

theorem t_res {tmps : Array Value} {w : World} {db : Nat} {v0 v1 v2 v3 v4 : Value} (ht : tmps.getD 2 undef = .pointer (some ⟨db, 0, none⟩)) (h : Blk w db [v0, v1, v2, v3, v4]) :
    (results Tryd.f28 tmps).run Tryd.prog w = .ok (.agg #[v0, v1, v2, v3, v4]) w := by
  have c0 := h.cell 0 rfl
  have c1 := h.cell 1 rfl
  have c2 := h.cell 2 rfl
  have c3 := h.cell 3 rfl
  have c4 := h.cell 4 rfl
  have ht' : tmps[2]?.getD undef = .pointer (some ⟨db, 0, none⟩) := by simpa using ht
  simp [results, Tryd.results28, go_sem, ht', c0, c1, c2, c3, c4]
set_option maxRecDepth 100000 in
theorem textN (s : ByteArray) (w : World) : Calls Tryd.prog 28 #[.string s] w (fun e w' => e = .returned (.agg #[.int .i64 4, .int .i64 0, .int .u64 0, .string s, .slice none 0 0]) ∧ Below w.heap.size w w') := by
  have hB := Blk.new w #[.int .i64 0, .int .i64 0, .int .u64 0, .string ⟨#[]⟩, .slice none 0 0] 25
  have hBW : Below w.heap.size w (w.alloc (.cells #[.int .i64 0, .int .i64 0, .int .u64 0, .string ⟨#[]⟩, .slice none 0 0] 25)) := (Below.refl _ _).alloc (Nat.le_refl _) _
  have HBW := Lib.hid hBW
  clear hBW
  go_enter Tryd.func28, Tryd.ntmps28
  go_upto_region 1 with (fail)
  change Code.wp _ _ _ _ (w.alloc (.cells #[.int .i64 0, .int .i64 0, .int .u64 0, .string ⟨#[]⟩, .slice none 0 0] 25))
  generalize w.alloc (.cells #[.int .i64 0, .int .i64 0, .int .u64 0, .string ⟨#[]⟩, .slice none 0 0] 25) = w1 at *
  obtain ⟨p, hp⟩ : ∃ p, p = w.heap.size := ⟨_, rfl⟩
  rw [← hp] at hB
  rw [← hp]
  have HP := Lib.hid hp
  have HB := Lib.hid hB
  have z0 := hB.cell 0 rfl
  have z1 := hB.cell 1 rfl
  have z2 := hB.cell 2 rfl
  have z3 := hB.cell 3 rfl
  have z4 := hB.cell 4 rfl
  have f0 := hB.free 0 (by simp)
  have f1 := hB.free 1 (by simp)
  have f2 := hB.free 2 (by simp)
  have f3 := hB.free 3 (by simp)
  have f4 := hB.free 4 (by simp)
  clear hB hp
  go_wp2_with fail
  change bodyPost _ _ _ _ _ (st5 w1 p (.int .i64 4) (.int .i64 0) (.int .u64 0) (.string s) (.slice none 0 0))
  refine bodyPost_ret (t_res rfl (st5_blk HB.out _ _ _ _ _)) rfl ⟨rfl, ?_⟩
  exact HBW.out.trans ((st5_kept (w := w1) (b := p) _ _ _ _ _).below HBW.out.size (fun x hx e => by unfold N1 at e; have := HP.out; omega))

/-- a value in a box -/
def bxD (d : Dt) : Dt := ⟨11, 1, 0, [], d.fo⟩
theorem ar_box {W : World} {d : Dt} {l : Option Addr} {n c b0 : Nat} (h : Ar (fun x => x < W.heap.size) W d l n c) (hb : Blk W b0 (vsD d l n c)) : Ar (fun x => x < W.heap.size) W (bxD d) (some ⟨b0, 0, none⟩) 1 1 := by
  obtain ⟨⟨cs, h1, h2⟩, h3⟩ := h
  refine ⟨⟨vsD d l n c, ⟨⟨rfl, by omega, by unfold maxLen; omega, .inr ⟨b0, 0, rfl, hb.1, fun j hj => ?_⟩⟩, fun x _ hx => by cases hx; exact hb.1⟩, l, n, c, cs, [], rfl, h1, h2, rfl⟩, fun _ hx => hx⟩
  rw [Nat.zero_add]
  exact (hb.2 j hj).1
theorem Ar.same_self {S : Nat → Prop} {w : World} {d : Dt} {l l' : Option Addr} {n c n' c' : Nat} (h : Ar S w d l n c) (h' : Ar S w d l' n' c') :
    Calls Tryd.prog 17 #[.agg #[.int .i64 d.k, .int .i64 d.i, .int .u64 d.b, .string ⟨d.t.toArray⟩, .slice l n c], .agg #[.int .i64 d.k, .int .i64 d.i, .int .u64 d.b, .string ⟨d.t.toArray⟩, .slice l' n' c']] w
    (fun e w' => e = .returned (.bool true) ∧ Below w.heap.size w w') := by
  have := h.rsame h'
  rw [(same_iff h.len h'.len).2 rfl] at this
  exact this
theorem ar_at {w w' : World} {d : Dt} {l : Option Addr} {n c B : Nat} (h : FoAt (fun x => B ≤ x) w d.l l n c) (hb : Below w.heap.size w w') : Ar (fun x => x < w'.heap.size) w' d l n c :=
  ⟨h.same (fun x _ hlt => hb.block x hlt) (fun _ _ hlt => Nat.lt_of_lt_of_le hlt hb.size), fun _ hx => hx⟩
theorem row_fo {B : Nat} {w : World} {f : Fo} {l : Option Addr} {n c : Nat} {cs : List Value} (h : Row B w 5 l n c cs ∧ At (fun x => B ≤ x ∧ blockOf l ≠ some x) w f cs) : FoAt (fun x => B ≤ x) w f l n c :=
  ⟨cs, ⟨h.1.rd, fun x _ hx => (h.1.lt x hx).1⟩, At.same _ h.2 (fun _ _ _ => rfl) (fun _ hx _ => hx.1)⟩
/-- while the row is written over -/
def OwRel (B : Nat) (l : Option Addr) (n c : Nat) (w9 : World) (t : Value) (wr : World) : Prop :=
  ∃ (j : Nat) (cs : List Value), t = .int .i64 (j : Nat) ∧ j ≤ n ∧ Row B wr 5 l n c cs ∧ Kept (fun x => blockOf l = some x) w9 wr
theorem row_cells {B : Nat} {w : World} {bb off n c j : Nat} {cs : List Value} (h : Row B w 5 (some ⟨bb, off, none⟩) n c cs) (hj : j < n) :
    (∃ v0 v1 v2 v3 v4, w.cell? ⟨bb, off + j * 5, none⟩ = some v0 ∧ w.cell? ⟨bb, off + j * 5 + 1, none⟩ = some v1 ∧ w.cell? ⟨bb, off + j * 5 + 2, none⟩ = some v2 ∧ w.cell? ⟨bb, off + j * 5 + 3, none⟩ = some v3 ∧ w.cell? ⟨bb, off + j * 5 + 4, none⟩ = some v4) ∧
    (w.frozen? ⟨bb, off + j * 5, none⟩ = false ∧ w.frozen? ⟨bb, off + j * 5 + 1, none⟩ = false ∧ w.frozen? ⟨bb, off + j * 5 + 2, none⟩ = false ∧ w.frozen? ⟨bb, off + j * 5 + 3, none⟩ = false ∧ w.frozen? ⟨bb, off + j * 5 + 4, none⟩ = false) := by
  obtain ⟨h1, h2, _, h4⟩ := h
  rcases h4 with ⟨h4, _⟩ | ⟨b, o, e, _, _, _, hs⟩
  · cases h4
  · cases e
    have hc : ∀ r, r < 5 → ∃ v, w.cell? ⟨bb, off + (j * 5 + r), none⟩ = some v := fun r hr => Option.isSome_iff_exists.1 (hs (j * 5 + r) (by omega)).1
    have hf : ∀ r, r < 5 → w.frozen? ⟨bb, off + (j * 5 + r), none⟩ = false := fun r hr => (hs (j * 5 + r) (by omega)).2
    obtain ⟨v0, e0⟩ := hc 0 (by omega)
    obtain ⟨v1, e1⟩ := hc 1 (by omega)
    obtain ⟨v2, e2⟩ := hc 2 (by omega)
    obtain ⟨v3, e3⟩ := hc 3 (by omega)
    obtain ⟨v4, e4⟩ := hc 4 (by omega)
    exact ⟨⟨v0, v1, v2, v3, v4, e0, e1, e2, e3, e4⟩, hf 0 (by omega), hf 1 (by omega), hf 2 (by omega), hf 3 (by omega), hf 4 (by omega)⟩
def st5o (w : World) (b o : Nat) (v0 v1 v2 v3 v4 : Value) : World :=
  ((((w.setCell ⟨b, o, none⟩ v0).setCell ⟨b, o + 1, none⟩ v1).setCell ⟨b, o + 2, none⟩ v2).setCell ⟨b, o + 3, none⟩ v3).setCell ⟨b, o + 4, none⟩ v4
theorem row_st5 {B : Nat} {w : World} {bb off n c j : Nat} {cs : List Value} (h : Row B w 5 (some ⟨bb, off, none⟩) n c cs) (v0 v1 v2 v3 v4 : Value) : ∃ cs', Row B (st5o w bb (off + j * 5) v0 v1 v2 v3 v4) 5 (some ⟨bb, off, none⟩) n c cs' :=
  ⟨_, ((((h.set rfl (j := j * 5) v0).set rfl (j := j * 5 + 1) v1).set rfl (j := j * 5 + 2) v2).set rfl (j := j * 5 + 3) v3).set rfl (j := j * 5 + 4) v4⟩
theorem st5o_kept {N : Nat → Prop} {w9 w : World} {b : Nat} (h : Kept N w9 w) (o : Nat) (hb : N b) (v0 v1 v2 v3 v4 : Value) : Kept N w9 (st5o w b o v0 v1 v2 v3 v4) :=
  ((((h.put (p := ⟨b, o, none⟩) v0 (fun _ => hb)).put (p := ⟨b, o + 1, none⟩) v1 (fun _ => hb)).put (p := ⟨b, o + 2, none⟩) v2 (fun _ => hb)).put (p := ⟨b, o + 3, none⟩) v3 (fun _ => hb)).put (p := ⟨b, o + 4, none⟩) v4 (fun _ => hb)
set_option maxRecDepth 100000 in
set_option maxHeartbeats 8000000 in
theorem ownT {S : Nat → Prop} {d : Dt} {l : Option Addr} {n c : Nat} {w : World} (hA : Ar S w d l n c) (hL : Lb w) (_hp : d.fo.plain) :
    Calls Tryd.prog 8 #[av d l n c] w (fun e w' => e = .returned (.bool true) ∧ Below w.heap.size w w') := by
  unfold av
  have HX := boxD_blk w d l n c
  have HBW := boxD_below w d l n c
  have HA := Lib.hid hA
  have HL := Lib.hid hL
  have hV := hA.below HBW |>.valid
  have HAW := Lib.hid (fun (wx : World) (hx : Below w.heap.size w wx) => awakeT (HL.out.below hx HL.out.size))
  have hoa := rvalid_ok (d := d)
  generalize rvalidM d = va at *
  clear hA hL
  go_enter Tryd.func8, Tryd.ntmps8
  go_upto_region 1 with (fail)
  change Code.wp _ _ _ _ (boxD w d l n c)
  generalize boxD w d l n c = w1 at *
  obtain ⟨p, hp⟩ : ∃ p, p = w.heap.size := ⟨_, rfl⟩
  rw [← hp] at HX
  rw [← hp]
  have x0 := HX.cell 0 rfl
  have x1 := HX.cell 1 rfl
  have x2 := HX.cell 2 rfl
  have x3 := HX.cell 3 rfl
  have x4 := HX.cell 4 rfl
  have HBW := Lib.hid HBW
  have HX := Lib.hid HX
  have HC1 := Lib.hid hV
  have HP := Lib.hid hp
  clear hV hp
  cases va
  · clear hoa
    go_wp2_with (first
      | (go_at_call 12; (with_reducible refine HC1.out.mono ?_); rintro e2 w2 ⟨rfl, hB⟩
         have HB2 := Lib.hid (HBW.out.trans (hB.mono HBW.out.size))
         have HC2 := Lib.hid (HAW.out w2 HB2.out)
         clear hB)
      | (go_at_call 13; (with_reducible refine HC2.out.mono ?_); rintro e3 w3 ⟨rfl, hB⟩; have HB3 := Lib.hid (HB2.out.trans (hB.mono HB2.out.size)); clear hB))
    go_ret
    exact ⟨rfl, HB3.out⟩
  replace hoa := hoa rfl
  have HOK := Lib.hid hoa
  clear hoa
  go_upto_region 4 with (go_at_call 12; (with_reducible refine HC1.out.mono ?_); rintro e2 w2 ⟨rfl, hB⟩; have HB2 := Lib.hid (HBW.out.trans (hB.mono HBW.out.size)); have HX2 := Lib.hid (HX.out.below hB); replace x0 := cellAt hB x0; replace x1 := cellAt hB x1; replace x2 := cellAt hB x2; replace x3 := cellAt hB x3; replace x4 := cellAt hB x4; clear hB)
  change Code.wp _ _ _ _ (boxD (boxD w2 d l n c) (bxD d) (some ⟨w2.heap.size, 0, none⟩) 1 1)
  have hb0 : Blk (boxD (boxD w2 d l n c) (bxD d) (some ⟨w2.heap.size, 0, none⟩) 1 1) w2.heap.size (vsD d l n c) := (boxD_blk w2 d l n c).alloc _
  have hb1 : Blk (boxD (boxD w2 d l n c) (bxD d) (some ⟨w2.heap.size, 0, none⟩) 1 1) (w2.heap.size + 1) (vsD (bxD d) (some ⟨w2.heap.size, 0, none⟩) 1 1) := by
    have := boxD_blk (boxD w2 d l n c) (bxD d) (some ⟨w2.heap.size, 0, none⟩) 1 1
    rw [show (boxD w2 d l n c).heap.size = w2.heap.size + 1 by simp [boxD]] at this
    exact this
  have hbw : Below w2.heap.size w2 (boxD (boxD w2 d l n c) (bxD d) (some ⟨w2.heap.size, 0, none⟩) 1 1) := (boxD_below w2 d l n c).trans ((boxD_below _ (bxD d) (some ⟨w2.heap.size, 0, none⟩) 1 1).mono (by simp [boxD]))
  generalize boxD (boxD w2 d l n c) (bxD d) (some ⟨w2.heap.size, 0, none⟩) 1 1 = w3 at *
  obtain ⟨q, hq⟩ : ∃ q, q = w2.heap.size + 1 := ⟨_, rfl⟩
  obtain ⟨b0, hb00⟩ : ∃ q, q = w2.heap.size := ⟨_, rfl⟩
  rw [← hq] at hb1
  rw [← hb00] at hb0 hb1
  rw [← hq, ← hb00]
  have HQ := Lib.hid (And.intro hq hb00)
  have HB3 := Lib.hid (HB2.out.trans (hbw.mono HB2.out.size))
  have HX3 := Lib.hid (HX2.out.below hbw)
  have hAr := (HA.out.below HB3.out).any
  have HAR := Lib.hid hAr
  have hbx := ar_box hAr hb0
  have HBX := Lib.hid hbx
  have HC4 := Lib.hid (show Calls Tryd.prog 12 #[.agg #[.int .i64 11, .int .i64 1, .int .u64 0, .string ⟨#[]⟩, .slice (some ⟨b0, 0, none⟩) 1 1]] w3 (fun e w' => e = .returned (.bool (rvalidM (bxD d))) ∧ Below w3.heap.size w3 w') from hbx.valid)
  have HQ3 := Lib.hid hb1
  have y0 : w3.cell? ⟨q, 0, none⟩ = some (.int .i64 11) := hb1.cell 0 rfl
  have y1 : w3.cell? ⟨q, 1, none⟩ = some (.int .i64 1) := hb1.cell 1 rfl
  have y2 : w3.cell? ⟨q, 2, none⟩ = some (.int .u64 0) := hb1.cell 2 rfl
  have y3 : w3.cell? ⟨q, 3, none⟩ = some (.string ⟨#[]⟩) := hb1.cell 3 rfl
  have y4 : w3.cell? ⟨q, 4, none⟩ = some (.slice (some ⟨b0, 0, none⟩) 1 1) := hb1.cell 4 rfl
  have hob := rvalid_ok (d := bxD d)
  generalize rvalidM (bxD d) = vb at *
  clear hb0 hb1 hbw hAr hbx hq hb00 x0 x1 x2 x3 x4
  cases vb
  · clear hob
    go_wp2_with (first
      | (go_at_call 12; (with_reducible refine HC4.out.mono ?_); rintro e4 w4 ⟨rfl, hB⟩
         have HB4 := Lib.hid (HB3.out.trans (hB.mono HB3.out.size))
         have HC5 := Lib.hid (HAW.out w4 HB4.out)
         clear hB)
      | (go_at_call 13; (with_reducible refine HC5.out.mono ?_); rintro e5 w5 ⟨rfl, hB⟩; have HB5 := Lib.hid (HB4.out.trans (hB.mono HB4.out.size)); clear hB))
    go_ret
    exact ⟨rfl, HB5.out⟩
  replace hob := hob rfl
  have HOB := Lib.hid hob
  clear hob
  go_upto_region 7 with (first
    | (go_at_call 12; (with_reducible refine HC4.out.mono ?_); rintro e4 w4 ⟨rfl, hB⟩; have HB4 := Lib.hid (HB3.out.trans (hB.mono HB3.out.size)); have HR4 := Lib.hid hB; have HQ4 := Lib.hid (HQ3.out.below hB); replace y0 := cellAt hB y0; replace y1 := cellAt hB y1; replace y2 := cellAt hB y2; replace y3 := cellAt hB y3; replace y4 := cellAt hB y4; have HO4 := Lib.hid (openN (k1 := d.k) (i1 := d.i) (b1 := d.b) (t1 := d.t) (ks := d.l) (i := 1) (HBX.out.below hB).at' (HBX.out.below hB).lt (shape_right _ (okD_fits HOB.out).2) (okD_size HOB.out)); clear hB)
    | (go_at_call 26; (with_reducible refine HO4.out.mono ?_); intro e5 w5 hO; obtain ⟨l9, n9, c9, cs9, rfl, hRA, hB⟩ := hO; have HRA := Lib.hid hRA; have HB5 := Lib.hid (HB4.out.trans (hB.mono HB4.out.size)); have HR5 := Lib.hid (HR4.out.trans (hB.mono HR4.out.size)); have HB45 := Lib.hid hB; clear hRA hB))
  change Code.wp _ _ _ _ (boxD w5 d l9 n9 c9)
  have hb4 := boxD_blk w5 d l9 n9 c9
  have hw5 := boxD_below w5 d l9 n9 c9
  generalize boxD w5 d l9 n9 c9 = w6 at *
  obtain ⟨q4, hq4⟩ : ∃ q, q = w5.heap.size := ⟨_, rfl⟩
  rw [← hq4] at hb4
  rw [← hq4]
  have HQ4B := Lib.hid hq4
  have HB56 := Lib.hid hw5
  have HB6 := Lib.hid (HB5.out.trans (hw5.mono HB5.out.size))
  have HR6 := Lib.hid (HR5.out.trans (hw5.mono HR5.out.size))
  have HA9 := Lib.hid (ar_at (row_fo HRA.out) hw5)
  have HAD6 := Lib.hid ((HA.out.below HB6.out).any)
  have HB4X := Lib.hid hb4
  have HX6 := Lib.hid (HX3.out.below HR6.out)
  have x0 := HX6.out.cell 0 rfl
  have x1 := HX6.out.cell 1 rfl
  have x2 := HX6.out.cell 2 rfl
  have x3 := HX6.out.cell 3 rfl
  have x4 := HX6.out.cell 4 rfl
  have z0 := hb4.cell 0 rfl
  have z1 := hb4.cell 1 rfl
  have z2 := hb4.cell 2 rfl
  have z3 := hb4.cell 3 rfl
  have z4 := hb4.cell 4 rfl
  have HC7 := Lib.hid (HA9.out.same_self HAD6.out)
  clear y0 y1 y2 y3 y4 hb4 hw5 hq4
  go_upto_region 10 with (first
    | (go_at_call 17; (with_reducible refine HC7.out.mono ?_); rintro e7 w7 ⟨rfl, hB⟩; have HB7 := Lib.hid hB; have HC8 := Lib.hid ((HAD6.out.below hB).copy HOK.out); replace x0 := cellAt hB x0; replace x1 := cellAt hB x1; replace x2 := cellAt hB x2; replace x3 := cellAt hB x3; replace x4 := cellAt hB x4; clear hB z0 z1 z2 z3 z4)
    | (go_at_call 27; (with_reducible refine HC8.out.mono ?_); rintro e8 w8 ⟨l6, n6, c6, rfl, hF6, hB⟩; have HF6 := Lib.hid hF6; have HB8 := Lib.hid (HB7.out.trans (hB.mono HB7.out.size)); clear hF6 hB))
  change Code.wp _ _ _ _ (boxD w8 d l6 n6 c6)
  have hb6 := boxD_blk w8 d l6 n6 c6
  have hw8 := boxD_below w8 d l6 n6 c6
  generalize boxD w8 d l6 n6 c6 = w9 at *
  obtain ⟨q6, hq6⟩ : ∃ q, q = w8.heap.size := ⟨_, rfl⟩
  rw [← hq6] at hb6
  rw [← hq6]
  have HQ6B := Lib.hid hq6
  have HB69 := Lib.hid (HB8.out.trans (hw8.mono HB8.out.size))
  have HB6X := Lib.hid hb6
  have HB49 := Lib.hid (HB4X.out.below HB69.out)
  have HF69 := Lib.hid (HF6.out.same (w' := w9) (fun x _ hlt => hw8.block x hlt) (fun _ hx _ => hx))
  have HROW := Lib.hid (HRA.out.1.below (HB56.out.trans (HB69.out.mono HB56.out.size)))
  have HLT := Lib.hid HRA.out.1.lt
  have H0 := Lib.hid (show OwRel w4.heap.size l9 n9 c9 w9 (.int .i64 0) w9 from ⟨0, cs9, rfl, Nat.zero_le _, HROW.out, Kept.refl _ _⟩)
  have z4 := HB49.out.cell 4 rfl
  have HSZ := Lib.hid (show w4.heap.size ≤ w5.heap.size ∧ w5.heap.size < w6.heap.size ∧ w6.heap.size ≤ w8.heap.size ∧ w8.heap.size < w9.heap.size from ⟨HB45.out.size, by have := HB4X.out.1; have := HQ4B.out; omega, HB8.out.size, by have := hb6.1; omega⟩)
  clear x0 x1 x2 x3 x4 hb6 hw8 hq6
  go_wp2_with fail
  go_loopw [38] (fun t38 wr => OwRel w4.heap.size l9 n9 c9 w9 t38 wr) (fun t38 _ => n9 - (intOf t38).toNat)
  case atStart => exact H0.out
  case round =>
    obtain ⟨j, cs, rfl, hj, hR, hK⟩ := hrel
    have z4 := (HB49.out.keep hK (fun h => by have := HLT.out _ h; have := HQ4B.out; omega)).cell 4 rfl
    have HR := Lib.hid hR
    have HK := Lib.hid hK
    clear H0 hR hK
    by_cases hjn : (j : Int) < (n9 : Int)
    · obtain ⟨bb, off, rfl⟩ : ∃ bb off, l9 = some ⟨bb, off, none⟩ := by
        rcases HR.out.2.2.2 with ⟨_, h⟩ | ⟨b, o, h, _⟩
        · have := HR.out.2.1
          omega
        · exact ⟨b, o, h⟩
      have hj9 : j < n9 := by omega
      have hjm : j ≤ 9223372036854775806 := by have := HR.out.2.1; have h := HR.out.2.2.1; unfold maxLen at h; omega
      obtain ⟨⟨v0, v1, v2, v3, v4, a0, a1, a2, a3, a4⟩, g0, g1, g2, g3, g4⟩ := row_cells HR.out hj9
      have hq : ∀ wx, Below wr.heap.size wr wx → (wx.cell? ⟨q4, 4, none⟩ = some (.slice (some ⟨bb, off, none⟩) n9 c9) ∧ (wx.cell? ⟨bb, off + j * 5, none⟩ = some v0 ∧ wx.cell? ⟨bb, off + j * 5 + 1, none⟩ = some v1 ∧ wx.cell? ⟨bb, off + j * 5 + 2, none⟩ = some v2 ∧ wx.cell? ⟨bb, off + j * 5 + 3, none⟩ = some v3 ∧ wx.cell? ⟨bb, off + j * 5 + 4, none⟩ = some v4) ∧ (wx.frozen? ⟨bb, off + j * 5, none⟩ = false ∧ wx.frozen? ⟨bb, off + j * 5 + 1, none⟩ = false ∧ wx.frozen? ⟨bb, off + j * 5 + 2, none⟩ = false ∧ wx.frozen? ⟨bb, off + j * 5 + 3, none⟩ = false ∧ wx.frozen? ⟨bb, off + j * 5 + 4, none⟩ = false)) :=
        fun wx hx => ⟨cellAt hx z4, ⟨cellAt hx a0, cellAt hx a1, cellAt hx a2, cellAt hx a3, cellAt hx a4⟩, freeAt hx a0 g0, freeAt hx a1 g1, freeAt hx a2 g2, freeAt hx a3 g3, freeAt hx a4 g4⟩
      have HKEEP := Lib.hid hq
      have hqb : bb ≠ q4 := by have h1 := HLT.out bb rfl; have h2 := HQ4B.out; omega
      have HSTW := Lib.hid (show ∀ (wx : World), wx.cell? ⟨q4, 4, none⟩ = some (.slice (some ⟨bb, off, none⟩) n9 c9) → ∀ v0 v1 v2 v3 v4 : Value, (st5o wx bb (off + j * 5) v0 v1 v2 v3 v4).cell? ⟨q4, 4, none⟩ = some (.slice (some ⟨bb, off, none⟩) n9 c9) from fun wx hz v0 v1 v2 v3 v4 => by
        have hk := st5o_kept (N := fun x => x = bb) (Kept.refl _ wx) (off + j * 5) rfl v0 v1 v2 v3 v4
        exact (World.cell?_of_block (a := ⟨q4, 4, none⟩) (hk.block q4 (World.block_lt_of_cell? _ _ hz) (fun e => hqb e.symm))).trans hz)
      clear hqb hq a0 a1 a2 a3 a4 g0 g1 g2 g3 g4 z4
      go_wp2_with fail
      refine wp_region_L (S := fun wx : World => wx.cell? ⟨q4, 4, none⟩ = some (.slice (some ⟨bb, off, none⟩) n9 c9)) (by kernel_rfl) ?_ (fun hHeld => ?_)
      · exact (HKEEP.out _ (Below.refl _ _).drew).1
      refine takeL (i := 0) 1 (v := ?va0) rfl (by kernel_rfl) (by kernel_rfl) (by kernel_rfl) (by kernel_rfl) (by kernel_rfl) (fun _ _ _ h => h) (Or.inl ⟨by rfl, ?hy0⟩) (by assumption) ?rest0
      case hy0 => (intro w9 hSw; (try dsimp only at hSw); go_simp; try with_reducible rfl)
      try simp only [Act.put, List.setIfInBounds_toArray, List.set_cons_zero, List.set_cons_succ]
      refine takeL (i := 1) 4 (v := ?va1) rfl (by kernel_rfl) (by kernel_rfl) (by kernel_rfl) (by kernel_rfl) (by kernel_rfl) (fun _ _ _ h => h) (Or.inl ⟨by rfl, ?hy1⟩) (by assumption) ?rest1
      case hy1 => (intro w9 hSw; (try dsimp only at hSw); go_simp; try with_reducible rfl)
      try simp only [Act.put, List.setIfInBounds_toArray, List.set_cons_zero, List.set_cons_succ]
      refine takeL (i := 2) 4 (v := ?va2) rfl (by kernel_rfl) (by kernel_rfl) (by kernel_rfl) (by kernel_rfl) (by kernel_rfl) (fun _ _ _ h => h) (Or.inl ⟨by rfl, ?hy2⟩) (by assumption) ?rest2
      case hy2 => (intro w9 hSw; (try dsimp only at hSw); go_simp; try with_reducible rfl)
      try simp only [Act.put, List.setIfInBounds_toArray, List.set_cons_zero, List.set_cons_succ]
      refine oneL (i := 3) (by kernel_rfl) rfl (fun K hK => ?_)
      (go_simp; go_at_call 28; (with_reducible refine (textN _ _).mono ?_); rintro eA wA ⟨rfl, hbA⟩; have HBT := Lib.hid ((Below.refl wr.heap.size wr).drew.trans hbA); clear hbA)
      refine hK.out _ _ ?_ (fun hHeld2 => ?_)
      · exact (HKEEP.out _ HBT.out).1
      clear hK K hHeld
      try simp only [Act.put, List.setIfInBounds_toArray, List.set_cons_zero, List.set_cons_succ]
      refine oneL (i := 4) (by kernel_rfl) rfl (fun K hK => ?_)
      go_simp
      refine hK.out _ _ hHeld2 (fun hHeld => ?_)
      clear hK K hHeld2
      try simp only [Act.put, List.setIfInBounds_toArray, List.set_cons_zero, List.set_cons_succ]
      obtain ⟨hz4, ⟨b0', b1', b2', b3', b4'⟩, m0, m1, m2, m3, m4⟩ := HKEEP.out _ HBT.out
      refine lastL (i := 5) (by kernel_rfl) rfl (by kernel_rfl) (by kernel_rfl) (fun K hK => ?_)
      go_simp
      refine hK.out _ _ ?_
      clear hK K hHeld
      change Exit.inBlock _ _ _ _ (st5o wA bb (off + j * 5) _ _ _ _ _)
      obtain ⟨cs', hR'⟩ := row_st5 (j := j) (HR.out.below HBT.out) (.int .i64 4) (.int .i64 0) (.int .u64 0) (.string ⟨#[119, 114, 105, 116, 116, 101, 110, 32, 111, 118, 101, 114]⟩) (.slice none 0 0)
      have hK' := st5o_kept (HK.out.calm HBT.out) (b := bb) (off + j * 5) rfl (.int .i64 4) (.int .i64 0) (.int .u64 0) (.string ⟨#[119, 114, 105, 116, 116, 101, 110, 32, 111, 118, 101, 114]⟩) (.slice none 0 0)
      generalize st5o wA bb (off + j * 5) (.int .i64 4) (.int .i64 0) (.int .u64 0) (.string ⟨#[119, 114, 105, 116, 116, 101, 110, 32, 111, 118, 101, 114]⟩) (.slice none 0 0) = wS at *
      have HR' := Lib.hid (And.intro hR' hK')
      clear hR' hK' b0' b1' b2' b3' b4' m0 m1 m2 m3 m4 hz4
      go_wp2_with fail
      go_roundw
      case rel => exact ⟨j + 1, cs', by go_num, hj9, HR'.out.1, HR'.out.2⟩
      case measure => simp [intOf]; omega
    · have hBE := (HR6.out.trans (HB69.out.mono HR6.out.size)).trans (HK.out.below (B := w3.heap.size) (by have := HR6.out.size; have := HB69.out.size; omega) (fun x hx h => by have := HLT.out x h; have := HR4.out.size; omega))
      have HBE := Lib.hid (HB3.out.trans (hBE.mono HB3.out.size))
      have HQE := Lib.hid (HQ3.out.below hBE)
      have HXE := Lib.hid (HX3.out.below hBE)
      have HOE := Lib.hid (openN (k1 := d.k) (i1 := d.i) (b1 := d.b) (t1 := d.t) (ks := d.l) (i := 1) (HBX.out.below hBE).at' (HBX.out.below hBE).lt (shape_right _ (okD_fits HOB.out).2) (okD_size HOB.out))
      have HAE := Lib.hid (HAR.out.below hBE)
      have H6E := Lib.hid (HB6X.out.keep HK.out (fun h => by have := HLT.out _ h; have := HQ6B.out; have := HSZ.out; omega))
      have HF6E := Lib.hid (HF69.out.keepS HK.out (fun x hx h => by have := HLT.out _ h; have := HSZ.out; have := HB7.out.size; omega))
      have x0 := HXE.out.cell 0 rfl
      have x1 := HXE.out.cell 1 rfl
      have x2 := HXE.out.cell 2 rfl
      have x3 := HXE.out.cell 3 rfl
      have x4 := HXE.out.cell 4 rfl
      have y0 : wr.cell? ⟨q, 0, none⟩ = some (.int .i64 11) := HQE.out.cell 0 rfl
      have y1 : wr.cell? ⟨q, 1, none⟩ = some (.int .i64 1) := HQE.out.cell 1 rfl
      have y2 : wr.cell? ⟨q, 2, none⟩ = some (.int .u64 0) := HQE.out.cell 2 rfl
      have y3 : wr.cell? ⟨q, 3, none⟩ = some (.string ⟨#[]⟩) := HQE.out.cell 3 rfl
      have y4 : wr.cell? ⟨q, 4, none⟩ = some (.slice (some ⟨b0, 0, none⟩) 1 1) := HQE.out.cell 4 rfl
      clear hBE z4
      go_upto_region 16 with (go_at_call 26; (with_reducible refine HOE.out.mono ?_); intro eF wF hO; obtain ⟨l8, n8, c8, cs8, rfl, hRA8, hBF⟩ := hO; have HRF := Lib.hid hRA8; have HBF := Lib.hid hBF; clear hRA8 hBF y0 y1 y2 y3 y4)
      change Code.wp _ _ _ _ (boxD wF d l8 n8 c8)
      have hb8 := boxD_blk wF d l8 n8 c8
      have hwF := boxD_below wF d l8 n8 c8
      generalize boxD wF d l8 n8 c8 = wG at *
      obtain ⟨q8, hq8⟩ : ∃ q, q = wF.heap.size := ⟨_, rfl⟩
      rw [← hq8] at hb8
      rw [← hq8]
      have hRG := HBF.out.trans (hwF.mono HBF.out.size)
      have HRG := Lib.hid hRG
      have HA8 := Lib.hid (ar_at (row_fo HRF.out) hwF)
      have HA6 := Lib.hid (ar_at HF6E.out hRG)
      have HAG := Lib.hid (HAE.out.below hRG).any
      replace x0 := cellAt hRG x0
      replace x1 := cellAt hRG x1
      replace x2 := cellAt hRG x2
      replace x3 := cellAt hRG x3
      replace x4 := cellAt hRG x4
      have s0 := (H6E.out.below hRG).cell 0 rfl
      have s1 := (H6E.out.below hRG).cell 1 rfl
      have s2 := (H6E.out.below hRG).cell 2 rfl
      have s3 := (H6E.out.below hRG).cell 3 rfl
      have s4 := (H6E.out.below hRG).cell 4 rfl
      have t0 := hb8.cell 0 rfl
      have t1 := hb8.cell 1 rfl
      have t2 := hb8.cell 2 rfl
      have t3 := hb8.cell 3 rfl
      have t4 := hb8.cell 4 rfl
      have HC1 := Lib.hid (HA8.out.same_self HA6.out)
      clear hb8 hwF hq8 hRG
      go_wp2_with (first
        | (go_at_call 17; (with_reducible refine HC1.out.mono ?_); rintro e11 w11 ⟨rfl, hB⟩; have HB11 := Lib.hid (HRG.out.trans (hB.mono HRG.out.size)); have HC2 := Lib.hid ((HAG.out.below hB).same_self (HA6.out.below hB)); replace x0 := cellAt hB x0; replace x1 := cellAt hB x1; replace x2 := cellAt hB x2; replace x3 := cellAt hB x3; replace x4 := cellAt hB x4; replace s0 := cellAt hB s0; replace s1 := cellAt hB s1; replace s2 := cellAt hB s2; replace s3 := cellAt hB s3; replace s4 := cellAt hB s4; clear hB t0 t1 t2 t3 t4)
        | (go_at_call 17; (with_reducible refine HC2.out.mono ?_); rintro e12 w12 ⟨rfl, hB⟩; have HB12 := Lib.hid (HBE.out.trans ((HB11.out.trans (hB.mono HB11.out.size)).mono HBE.out.size)); have HC3 := Lib.hid (HAW.out w12 HB12.out); clear hB)
        | (go_at_call 13; (with_reducible refine HC3.out.mono ?_); rintro e13 w13 ⟨rfl, hB⟩; have HB13 := Lib.hid (HB12.out.trans (hB.mono HB12.out.size)); clear hB))
      go_ret
      exact ⟨rfl, HB13.out⟩
end Go.Proofs.YtofpdhkdnbnobaaDoor
