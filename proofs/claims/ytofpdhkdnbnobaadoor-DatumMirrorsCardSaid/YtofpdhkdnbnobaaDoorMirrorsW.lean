/-
  DatumMirrors (walk). Not a statement of the seat.
-/
import Derived.Test.YtofpdhkdnbnobaaDoorGroupC
import Derived.Test.YtofpdhkdnbnobaaDoorNan
namespace Go.Proofs.YtofpdhkdnbnobaaDoor
open Go.RowKit

theorem fo_one {W : World} {d : Dt} {l : Option Addr} {n c b0 : Nat} (h : Ar (fun x => x < W.heap.size) W d l n c) (hb : Blk W b0 (vsD d l n c)) : FoAt (fun x => x < W.heap.size) W d.fo (some ⟨b0, 0, none⟩) 1 1 := by
  obtain ⟨⟨cs, h1, h2⟩, h3⟩ := h
  refine ⟨vsD d l n c, ⟨⟨rfl, by omega, by unfold maxLen; omega, .inr ⟨b0, 0, rfl, hb.1, fun j hj => ?_⟩⟩, fun x _ hx => by cases hx; exact hb.1⟩, l, n, c, cs, [], rfl, h1, h2, rfl⟩
  rw [Nat.zero_add]
  exact (hb.2 j hj).1
theorem Ar.anyE {S : Nat → Prop} {w : World} {d : Dt} {l : Option Addr} {n c : Nat} (h : Ar S w d l n c) : Ar (fun x => x < w.heap.size) w d l n c :=
  ⟨h.at'.same (fun _ _ _ => rfl) (fun x hx _ => h.lt x hx), fun _ hx => hx⟩
theorem GRP.key {d : Dt} {w w' : World} {e : Ending} (h : GRP d.fo w e w') (hk : keyD d = true) : ∃ a c, e = .returned (.tuple #[.slice a 1 c, .int .i64 0]) ∧ Rd w' 1 a 1 c [.int .i64 0] ∧ Below w.heap.size w w' := by
  have hf : keyF d.fo = true := by
    show (keyOne d.k (keyF d.l) && true) = true
    rw [Bool.and_true]
    exact hk
  obtain ⟨a, n, c, xs, er, rfl, h1, h2, ⟨_, rfl, rfl, rfl⟩ | ⟨h, _⟩⟩ := h
  · have hg : gAt d.fo.toL 0 = 0 := by have := gAt_le d.fo.toL 0; omega
    refine ⟨a, c, rfl, ?_, h2⟩
    have hx : outL d.fo.toL d.fo.len = [.int .i64 0] := by
      show [Value.int .i64 (gAt d.fo.toL 0 : Nat)] = _
      rw [hg]
      rfl
    rw [hx] at h1
    exact h1
  · rw [hf] at h; cases h
theorem GRP.not {d : Dt} {w w' : World} {e : Ending} (h : GRP d.fo w e w') (hk : keyD d = false) : ∃ a c, e = .returned (.tuple #[.slice a 0 c, .int .i64 11]) ∧ Below w.heap.size w w' := by
  have hf : keyF d.fo = false := by
    show (keyOne d.k (keyF d.l) && true) = false
    rw [Bool.and_true]
    exact hk
  obtain ⟨a, n, c, xs, er, rfl, h1, h2, ⟨h, _⟩ | ⟨_, rfl, rfl, rfl⟩⟩ := h
  · rw [hf] at h; cases h
  · exact ⟨a, c, rfl, h2⟩

set_option maxRecDepth 100000 in
set_option maxHeartbeats 8000000 in
theorem mirrorsT {S : Nat → Prop} {a b : Dt} {la lb : Option Addr} {na ca nb cb : Nat} {w : World} (hA : Ar S w a la na ca) (hB : Ar S w b lb nb cb) (hL : Lb w) (hpa : a.fo.plain) (hpb : b.fo.plain) :
    Calls Tryd.prog 10 #[av a la na ca, av b lb nb cb] w (fun e w' => e = .returned (.bool true) ∧ Below w.heap.size w w') := by
  unfold av
  obtain ⟨HX, HY, HBW⟩ := two_boxes w a b la lb na ca nb cb
  have HA := Lib.hid hA
  have HB := Lib.hid hB
  have HL := Lib.hid hL
  have HPA := Lib.hid hpa
  have HPB := Lib.hid hpb
  have hVA := fun (wx : World) (hx : Below w.heap.size w wx) => (HA.out.below hx).valid
  have hVB := fun (wx : World) (hx : Below w.heap.size w wx) => (HB.out.below hx).valid
  have HAW := Lib.hid (fun (wx : World) (hx : Below w.heap.size w wx) => awakeT (HL.out.below hx HL.out.size))
  have hoa := rvalid_ok (d := a)
  have hob := rvalid_ok (d := b)
  generalize rvalidM a = va at *
  generalize rvalidM b = vb at *
  clear hA hB hL hpa hpb
  go_enter Tryd.func10, Tryd.ntmps10
  go_upto_region 1 with (fail)
  change Code.wp _ _ _ _ (twoW w a b la lb na ca nb cb)
  generalize twoW w a b la lb na ca nb cb = w1 at *
  obtain ⟨p, hp⟩ : ∃ p, p = w.heap.size := ⟨_, rfl⟩
  obtain ⟨q, hq⟩ : ∃ q, q = w.heap.size + 1 := ⟨_, rfl⟩
  rw [← hp] at HX
  rw [← hq] at HY
  rw [← hq, ← hp]
  have hKEEP := keep_of HX HY
  have x0 := HX.cell 0 rfl
  have x1 := HX.cell 1 rfl
  have x2 := HX.cell 2 rfl
  have x3 := HX.cell 3 rfl
  have x4 := HX.cell 4 rfl
  have y0 := HY.cell 0 rfl
  have y1 := HY.cell 1 rfl
  have y2 := HY.cell 2 rfl
  have y3 := HY.cell 3 rfl
  have y4 := HY.cell 4 rfl
  have HKEEP := Lib.hid hKEEP
  have HBW := Lib.hid HBW
  have HC1 := Lib.hid (hVA w1 HBW.out)
  have HVB := Lib.hid hVB
  clear HX HY hKEEP hVA hVB hp hq
  cases va
  · clear hoa hob
    go_wp2_with (first
      | (go_at_call 12; (with_reducible refine HC1.out.mono ?_); rintro e2 w2 ⟨rfl, hB⟩
         have HB2 := Lib.hid (HBW.out.trans (hB.mono HBW.out.size))
         have HC2 := Lib.hid (HAW.out w2 HB2.out)
         clear hB)
      | (go_at_call 13; (with_reducible refine HC2.out.mono ?_); rintro e3 w3 ⟨rfl, hB⟩; have HB3 := Lib.hid (HB2.out.trans (hB.mono HB2.out.size)); clear hB))
    go_ret
    exact ⟨rfl, HB3.out⟩
  cases vb
  · clear hoa hob
    go_wp2_with (first
      | (go_at_call 12; (with_reducible refine HC1.out.mono ?_); rintro e2 w2 ⟨rfl, hB⟩
         have HB2 := Lib.hid (HBW.out.trans (hB.mono HBW.out.size))
         have HC2 := Lib.hid (HVB.out w2 HB2.out)
         replace x0 := cellAt hB x0; replace x1 := cellAt hB x1; replace x2 := cellAt hB x2; replace x3 := cellAt hB x3; replace x4 := cellAt hB x4; replace y0 := cellAt hB y0; replace y1 := cellAt hB y1; replace y2 := cellAt hB y2; replace y3 := cellAt hB y3; replace y4 := cellAt hB y4
         clear hB)
      | (go_at_call 12; (with_reducible refine HC2.out.mono ?_); rintro e3 w3 ⟨rfl, hB⟩
         have HB3 := Lib.hid (HB2.out.trans (hB.mono HB2.out.size))
         have HC3 := Lib.hid (HAW.out w3 HB3.out)
         clear hB)
      | (go_at_call 13; (with_reducible refine HC3.out.mono ?_); rintro e4 w4 ⟨rfl, hB⟩; have HB4 := Lib.hid (HB3.out.trans (hB.mono HB3.out.size)); clear hB))
    go_ret
    exact ⟨rfl, HB4.out⟩
  replace hoa := hoa rfl
  replace hob := hob rfl
  have HOK := Lib.hid (And.intro hoa hob)
  clear hoa hob
  go_upto_region 3 with (first
    | (go_at_call 12; (with_reducible refine HC1.out.mono ?_); rintro e2 w2 ⟨rfl, hB⟩
       have HB2 := Lib.hid (HBW.out.trans (hB.mono HBW.out.size))
       have HC2 := Lib.hid (HVB.out w2 HB2.out)
       have HR2 := Lib.hid hB
       replace x0 := cellAt hB x0; replace x1 := cellAt hB x1; replace x2 := cellAt hB x2; replace x3 := cellAt hB x3; replace x4 := cellAt hB x4; replace y0 := cellAt hB y0; replace y1 := cellAt hB y1; replace y2 := cellAt hB y2; replace y3 := cellAt hB y3; replace y4 := cellAt hB y4
       clear hB)
    | (go_at_call 12; (with_reducible refine HC2.out.mono ?_); rintro e3 w3 ⟨rfl, hB⟩
       have HB3 := Lib.hid (HB2.out.trans (hB.mono HB2.out.size))
       have HR3 := Lib.hid (HR2.out.trans (hB.mono HR2.out.size))
       replace x0 := cellAt hB x0; replace x1 := cellAt hB x1; replace x2 := cellAt hB x2; replace x3 := cellAt hB x3; replace x4 := cellAt hB x4; replace y0 := cellAt hB y0; replace y1 := cellAt hB y1; replace y2 := cellAt hB y2; replace y3 := cellAt hB y3; replace y4 := cellAt hB y4
       clear hB))
  clear HC1 HC2 HVB HKEEP
  have HX3 := Lib.hid (And.intro x0 (And.intro x1 (And.intro x2 (And.intro x3 x4))))
  have hsym := eqD_symm b a
  have hce : ∀ wx, Below w3.heap.size w3 wx → Calls Tryd.prog 29 #[.agg #[.int .i64 a.k, .int .i64 a.i, .int .u64 a.b, .string ⟨a.t.toArray⟩, .slice la na ca], .agg #[.int .i64 b.k, .int .i64 b.i, .int .u64 b.b, .string ⟨b.t.toArray⟩, .slice lb nb cb]] wx (EUP (eqD a b) wx) :=
    fun wx hx => (HA.out.below (HB3.out.trans (hx.mono HB3.out.size))).anyE.equalE (HB.out.below (HB3.out.trans (hx.mono HB3.out.size))).anyE HOK.out.1 HOK.out.2
  have hcf : ∀ wx, Below w3.heap.size w3 wx → Calls Tryd.prog 29 #[.agg #[.int .i64 b.k, .int .i64 b.i, .int .u64 b.b, .string ⟨b.t.toArray⟩, .slice lb nb cb], .agg #[.int .i64 a.k, .int .i64 a.i, .int .u64 a.b, .string ⟨a.t.toArray⟩, .slice la na ca]] wx (EUP (eqD a b) wx) :=
    fun wx hx => by
      rw [← hsym]
      exact (HB.out.below (HB3.out.trans (hx.mono HB3.out.size))).anyE.equalE (HA.out.below (HB3.out.trans (hx.mono HB3.out.size))).anyE HOK.out.2 HOK.out.1
  have hcs : ∀ wx, Below w3.heap.size w3 wx → Calls Tryd.prog 29 #[.agg #[.int .i64 a.k, .int .i64 a.i, .int .u64 a.b, .string ⟨a.t.toArray⟩, .slice la na ca], .agg #[.int .i64 a.k, .int .i64 a.i, .int .u64 a.b, .string ⟨a.t.toArray⟩, .slice la na ca]] wx (EUP (eqD a a) wx) :=
    fun wx hx => (HA.out.below (HB3.out.trans (hx.mono HB3.out.size))).anyE.equalE (HA.out.below (HB3.out.trans (hx.mono HB3.out.size))).anyE HOK.out.1 HOK.out.1
  have hcg : ∀ wx, Below w3.heap.size w3 wx → Calls Tryd.prog 24 #[.slice (some ⟨wx.heap.size, 0, none⟩) 1 1] (wx.alloc (.cells #[.int .i64 a.k, .int .i64 a.i, .int .u64 a.b, .string ⟨a.t.toArray⟩, .slice la na ca] 25)) (GRP a.fo (wx.alloc (.cells #[.int .i64 a.k, .int .i64 a.i, .int .u64 a.b, .string ⟨a.t.toArray⟩, .slice la na ca] 25))) :=
    fun wx hx => groupN (fo_one ((HA.out.below (HB3.out.trans (hx.mono HB3.out.size))).below (boxD_below wx a la na ca)).anyE (boxD_blk wx a la na ca)) (fun _ hx => hx) ⟨HOK.out.1, trivial⟩ (by have := HOK.out.1.1; simp only [Dt.fo, sizeF]; omega)
  have hcn : ∀ wx, Below w3.heap.size w3 wx → Calls Tryd.prog 31 #[.agg #[.int .i64 a.k, .int .i64 a.i, .int .u64 a.b, .string ⟨a.t.toArray⟩, .slice la na ca]] wx (fun e w' => e = .returned (.bool (nanOne a.k a.b (nanF a.l))) ∧ Below wx.heap.size wx w') :=
    fun wx hx => nanG a.l a.k a.i a.b a.t la na ca _ wx (HA.out.below (HB3.out.trans (hx.mono HB3.out.size))).at' (HA.out.below (HB3.out.trans (hx.mono HB3.out.size))).lt (fun e9 => by have := (okE_fits HOK.out.1).1; rw [e9] at this; simp [fitsM] at this; omega) (shape_right _ (okE_fits HOK.out.1).2)
  have HCE := Lib.hid hce
  have HCF := Lib.hid hcf
  have HCS := Lib.hid hcs
  have HCG := Lib.hid hcg
  have HCN := Lib.hid hcn
  clear hce hcf hcs hcg hcn hsym
  generalize eqD a b = rr at *
  obtain ⟨r1, r2⟩ := rr
  have hself : (keyD a = true ∧ eqD a a = (!nanOne a.k a.b (nanF a.l), 0)) ∨ (keyD a = false ∧ ∃ s2, eqD a a = (false, s2)) := by
    cases hk : keyD a
    · refine .inr ⟨rfl, (eqD a a).2, ?_⟩
      rw [← eqD_not hk]
    · refine .inl ⟨rfl, ?_⟩
      rw [← eqD_self HPA.out hk, ← eqD_key hk hk]
  generalize eqD a a = ss at *
  generalize nanOne a.k a.b (nanF a.l) = nn at *
  rcases hself with ⟨hk, rfl⟩ | ⟨hk, s2, rfl⟩
  · have HK := Lib.hid hk
    clear hk
    go_wp2_with (first
      | (go_at_call 29; (with_reducible refine (HCE.out _ (Below.refl _ _)).mono ?_); rintro e4 w4 ⟨rfl, hB⟩
         have HB4 := Lib.hid hB
         replace x0 := cellAt hB x0; replace x1 := cellAt hB x1; replace x2 := cellAt hB x2; replace x3 := cellAt hB x3; replace x4 := cellAt hB x4; replace y0 := cellAt hB y0; replace y1 := cellAt hB y1; replace y2 := cellAt hB y2; replace y3 := cellAt hB y3; replace y4 := cellAt hB y4
         clear hB)
      | (go_at_call 29; (with_reducible refine (HCF.out _ HB4.out).mono ?_); rintro e5 w5 ⟨rfl, hB⟩
         have HB5 := Lib.hid (HB4.out.trans (hB.mono HB4.out.size))
         replace x0 := cellAt hB x0; replace x1 := cellAt hB x1; replace x2 := cellAt hB x2; replace x3 := cellAt hB x3; replace x4 := cellAt hB x4
         clear hB y0 y1 y2 y3 y4)
      | (go_at_call 29; (with_reducible refine (HCS.out _ HB5.out).mono ?_); rintro e6 w6 ⟨rfl, hB⟩
         have HB6 := Lib.hid (HB5.out.trans (hB.mono HB5.out.size))
         replace x0 := cellAt hB x0; replace x1 := cellAt hB x1; replace x2 := cellAt hB x2; replace x3 := cellAt hB x3; replace x4 := cellAt hB x4
         clear hB)
      | (go_at_call 24; (with_reducible refine (HCG.out _ HB6.out).mono ?_); intro e7 w7 hg; obtain ⟨ag, cg, rfl, hr, hb⟩ := hg.key HK.out
         have hB := (boxD_below w6 a la na ca).trans (hb.mono (boxD_below w6 a la na ca).size)
         have HB7 := Lib.hid (HB6.out.trans (hB.mono HB6.out.size))
         replace x0 := cellAt hB x0; replace x1 := cellAt hB x1; replace x2 := cellAt hB x2; replace x3 := cellAt hB x3; replace x4 := cellAt hB x4
         obtain ⟨bg, og, rfl, _, hg0⟩ := hr.at1 (k := 0) (by omega)
         replace hg0 : w7.cell? ⟨bg, og, none⟩ = some (.int .i64 0) := hg0
         clear hB hg hr hb)
      | (go_at_call 31; (with_reducible refine (HCN.out _ HB7.out).mono ?_); rintro e8 w8 ⟨rfl, hB⟩
         have HB8 := Lib.hid (HB3.out.trans ((HB7.out.trans (hB.mono HB7.out.size)).mono HB3.out.size))
         replace hg0 := cellAt hB hg0
         have HC9 := Lib.hid (HAW.out w8 HB8.out)
         clear hB)
      | (go_at_call 13; (with_reducible refine HC9.out.mono ?_); rintro e9 w9 ⟨rfl, hB⟩; have HB9 := Lib.hid (HB8.out.trans (hB.mono HB8.out.size)); clear hB))
    go_ret
    exact ⟨rfl, HB9.out⟩
  · have HK := Lib.hid hk
    clear hk
    go_wp2_with (first
      | (go_at_call 29; (with_reducible refine (HCE.out _ (Below.refl _ _)).mono ?_); rintro e4 w4 ⟨rfl, hB⟩
         have HB4 := Lib.hid hB
         replace x0 := cellAt hB x0; replace x1 := cellAt hB x1; replace x2 := cellAt hB x2; replace x3 := cellAt hB x3; replace x4 := cellAt hB x4; replace y0 := cellAt hB y0; replace y1 := cellAt hB y1; replace y2 := cellAt hB y2; replace y3 := cellAt hB y3; replace y4 := cellAt hB y4
         clear hB)
      | (go_at_call 29; (with_reducible refine (HCF.out _ HB4.out).mono ?_); rintro e5 w5 ⟨rfl, hB⟩
         have HB5 := Lib.hid (HB4.out.trans (hB.mono HB4.out.size))
         replace x0 := cellAt hB x0; replace x1 := cellAt hB x1; replace x2 := cellAt hB x2; replace x3 := cellAt hB x3; replace x4 := cellAt hB x4
         clear hB y0 y1 y2 y3 y4)
      | (go_at_call 29; (with_reducible refine (HCS.out _ HB5.out).mono ?_); rintro e6 w6 ⟨rfl, hB⟩
         have HB6 := Lib.hid (HB5.out.trans (hB.mono HB5.out.size))
         replace x0 := cellAt hB x0; replace x1 := cellAt hB x1; replace x2 := cellAt hB x2; replace x3 := cellAt hB x3; replace x4 := cellAt hB x4
         clear hB)
      | (go_at_call 24; (with_reducible refine (HCG.out _ HB6.out).mono ?_); intro e7 w7 hg; obtain ⟨ag, cg, rfl, hb⟩ := hg.not HK.out
         have hB := (boxD_below w6 a la na ca).trans (hb.mono (boxD_below w6 a la na ca).size)
         have HB8 := Lib.hid (HB3.out.trans ((HB6.out.trans (hB.mono HB6.out.size)).mono HB3.out.size))
         have HC9 := Lib.hid (HAW.out w7 HB8.out)
         clear hB hg hb)
      | (go_at_call 13; (with_reducible refine HC9.out.mono ?_); rintro e9 w9 ⟨rfl, hB⟩; have HB9 := Lib.hid (HB8.out.trans (hB.mono HB8.out.size)); clear hB))
    all_goals
      go_ret
      exact ⟨rfl, HB9.out⟩
end Go.Proofs.YtofpdhkdnbnobaaDoor
