/-
  The document's Parse (walk). Not a statement of the seat.
-/
import Derived.Test.YtofpdhkdnbnobaaDoorRVal
import Derived.Test.YtofpdhkdnbnobaaDoorValidW
namespace Go.Proofs.YtofpdhkdnbnobaaDoor
open Go.RowKit

/-- the world behind Parse's first two statements -/
def pow9 (w : World) (S : ByteArray) : World :=
  (w.alloc (.cells #[.int .i64 0, .int .i64 0, .int .u64 0, .string ⟨#[]⟩, .slice none 0 0] 25)).alloc (.cells #[.string S, .int .i64 0, .int .i64 0, .int .i64 0, .bool false] 69)
theorem pow_facts (w : World) (S : ByteArray) : Blk (pow9 w S) w.heap.size (V5 0 0 0 ⟨#[]⟩ none 0 0) ∧ Rr (pow9 w S) (w.heap.size + 1) S 0 0 0 false ∧ Below w.heap.size w (pow9 w S) := by
  refine ⟨(Blk.new w _ _).alloc _, ?_, ((Below.refl _ w).alloc (Nat.le_refl _) _).alloc (by simp) _⟩
  have := Blk.new (w.alloc (.cells #[.int .i64 0, .int .i64 0, .int .u64 0, .string ⟨#[]⟩, .slice none 0 0] 25)) #[.string S, .int .i64 0, .int .i64 0, .int .i64 0, .bool false] 69
  simpa [pow9, Rr] using this
theorem pr_res {tmps : Array Value} {w : World} {db : Nat} {v0 v1 v2 v3 v4 u : Value} (ht : tmps.getD 2 undef = .pointer (some ⟨db, 0, none⟩)) (hu : tmps.getD 3 undef = u) (h : Blk w db [v0, v1, v2, v3, v4]) :
    (results Tryd.f18 tmps).run Tryd.prog w = .ok (.tuple #[.agg #[v0, v1, v2, v3, v4], u]) w := by
  have c0 := h.cell 0 rfl
  have c1 := h.cell 1 rfl
  have c2 := h.cell 2 rfl
  have c3 := h.cell 3 rfl
  have c4 := h.cell 4 rfl
  have ht' : tmps[2]?.getD undef = .pointer (some ⟨db, 0, none⟩) := by simpa using ht
  have hu' : tmps[3]?.getD undef = u := by simpa using hu
  simp [results, Tryd.results18, go_sem, ht', hu', c0, c1, c2, c3, c4]
theorem pr_none {S : ByteArray} {w w9 : World} {res : Res Dt} {tmps : Array Value} (ht : tmps.getD 2 undef = .pointer (some ⟨w.heap.size, 0, none⟩)) (hu : tmps.getD 3 undef = .int .i64 14) (h : Blk w9 w.heap.size (V5 0 0 0 ⟨#[]⟩ none 0 0)) (hB : Below w.heap.size w w9)
    (hres : ∀ d' b, res = .ok d' b → ¬ (b = S.size ∧ validD d' = true)) :
    bodyPost Tryd.prog Tryd.f18 (PP S w res) Exit.ret { tmps := tmps, defers := [] } (st5 w9 w.heap.size (.int .i64 0) (.int .i64 0) (.int .u64 0) (.string ⟨#[]⟩) (.slice none 0 0)) := by
  refine bodyPost_ret (pr_res ht hu (st5_blk h _ _ _ _ _)) rfl ?_
  exact ⟨Dt.zero, 14, none, 0, 0, rfl, FoAt.nil _ _, ((Kept.of' (N := N1 w.heap.size) hB).trans (st5_kept _ _ _ _ _)).below (Nat.le_refl _) (fun x hx e => by unfold N1 at e; omega), .inr ⟨rfl, rfl, hres⟩⟩
theorem many_bad {d : Dt} (h : 4096 < 1 + sizeF d.l) : validD d = false := (valid_bad (fun hk => by have := hk.1; omega)).1

set_option maxHeartbeats 4000000 in
set_option maxRecDepth 100000 in
theorem rparseN {S : ByteArray} {f : Nat} {w : World} (hS : S.size ≤ 1000000000000) (hL : Lb w) (ho : valueM S.data.toList f 0 0 ≠ .out) :
    Calls Tryd.prog 18 #[.string S] w (PP S w (valueM S.data.toList f 0 0)) := by
  have HW := Lib.hid (pow_facts w S)
  have HC := Lib.hid (rall hS f (w.heap.size + 1) 0 0 0 (pow9 w S) HW.out.2.1 (Nat.zero_le _) (by omega) (by omega) (hL.below HW.out.2.2 hL.size) (by have := hL.size; omega) ho)
  generalize valueM S.data.toList f 0 0 = res at *
  have HO := Lib.hid ho
  clear hL ho
  go_enter Tryd.func18, Tryd.ntmps18
  go_upto_region 2 with (fail)
  change Code.wp _ _ _ _ (pow9 w S)
  generalize pow9 w S = w1 at *
  have hrb9 : w.heap.size + 1 < w1.heap.size := HW.out.2.1.lt
  have HRB := Lib.hid hrb9
  go_upto_region 3 with (go_at_call 41; (with_reducible refine HC.out.mono ?_); rintro e w2 hpost; obtain ⟨k5, i5, b5, t5, l5, n5, c5, bad, a', D', n', rfl, hR, hle, hd1, hd2, hK, hcase⟩ := rvp_any hpost HO.out (by omega); have HR2 := Lib.hid hR; have HK2 := Lib.hid hK; have HCA := Lib.hid hcase; clear hpost hR hK hcase)
  have HR := Lib.hid (Blk.alloc HR2.out (.cells #[.int .i64 k5, .int .i64 i5, .int .u64 b5, .string t5, .slice l5 n5 c5] 25))
  have HD := Lib.hid (Blk.alloc (HW.out.1.keep HK2.out (by unfold N1; omega)) (.cells #[.int .i64 k5, .int .i64 i5, .int .u64 b5, .string t5, .slice l5 n5 c5] 25))
  have HB := Lib.hid ((HW.out.2.2.trans (HK2.out.below (Nat.le_of_lt (Nat.lt_of_succ_lt HRB.out)) (fun x hx e => by unfold N1 at e; omega))).alloc (Nat.le_trans HW.out.2.2.size HK2.out.size) (.cells #[.int .i64 k5, .int .i64 i5, .int .u64 b5, .string t5, .slice l5 n5 c5] 25))
  have HX := Lib.hid (Blk.new w2 #[.int .i64 k5, .int .i64 i5, .int .u64 b5, .string t5, .slice l5 n5 c5] 25)
  have HY := Lib.hid ((Below.refl w2.heap.size w2).alloc (Nat.le_refl _) (.cells #[.int .i64 k5, .int .i64 i5, .int .u64 b5, .string t5, .slice l5 n5 c5] 25))
  generalize w2.alloc (.cells #[.int .i64 k5, .int .i64 i5, .int .u64 b5, .string t5, .slice l5 n5 c5] 25) = y at *
  have c1 := HR.out.cell 1 rfl
  have c4 := HR.out.cell 4 rfl
  have x0 := HX.out.cell 0 rfl; have x1 := HX.out.cell 1 rfl; have x2 := HX.out.cell 2 rfl; have x3 := HX.out.cell 3 rfl; have x4 := HX.out.cell 4 rfl
  rcases HCA.out with ⟨d, rfl, rfl, h1, rfl, rfl, h3, h4, rfl, rfl, rfl, rfl⟩ | ⟨rfl, hbad⟩ | ⟨rfl, rfl, h1, h2, h3⟩
  · have HF0 := Lib.hid h4
    clear h4
    by_cases hb : a' = S.size
    · have hne : ((a' : Int) != (S.size : Int)) = false := by simp [hb]
      have HBE := Lib.hid hb
      have HV := Lib.hid (rvalidN (d := d) (w := y) (FoAt.same (S' := fun x => x < w2.heap.size) HF0.out (fun x hx hlt => HY.out.block x hlt) (fun x _ hlt => hlt)) (fun x hx => Nat.lt_of_lt_of_le hx HY.out.size))
      rw [← valid_eq] at HV
      clear hb
      cases hvd : validD d
      · go_wp2_with (go_at_call 12; refine HV.out.mono ?_; rintro e w3 ⟨rfl, hB⟩; rw [hvd]
                     replace HD := Lib.hid (HD.out.below hB)
                     have HB3 := Lib.hid (HB.out.trans (hB.mono HB.out.size))
                     have o0 := HD.out.cell 0 rfl; have o1 := HD.out.cell 1 rfl; have o2 := HD.out.cell 2 rfl; have o3 := HD.out.cell 3 rfl; have o4 := HD.out.cell 4 rfl; have p0 := HD.out.free 0 (by simp [V5]); have p1 := HD.out.free 1 (by simp [V5]); have p2 := HD.out.free 2 (by simp [V5]); have p3 := HD.out.free 3 (by simp [V5]); have p4 := HD.out.free 4 (by simp [V5])
                     clear hB)
        exact pr_none rfl rfl HD.out HB3.out (fun d' b' h e => by cases h; rw [hvd] at e; cases e.2)
      · have HVD := Lib.hid hvd
        have HF := Lib.hid (FoAt.same (S' := fun x => w.heap.size + 2 ≤ x) HF0.out (fun x hx hlt => HY.out.block x hlt) (fun x hx _ => by have := HRB.out; omega))
        go_wp2_with (go_at_call 12; refine HV.out.mono ?_; rintro e w3 ⟨rfl, hB⟩; rw [hvd]
                     replace HD := Lib.hid (HD.out.below hB)
                     replace HX := Lib.hid (HX.out.below hB)
                     have HB3 := Lib.hid (HB.out.trans (hB.mono HB.out.size))
                     replace HF := Lib.hid (HF.out.same (fun x hx hlt => hB.block x hlt) (fun x hx _ => hx))
                     have o0 := HD.out.cell 0 rfl; have o1 := HD.out.cell 1 rfl; have o2 := HD.out.cell 2 rfl; have o3 := HD.out.cell 3 rfl; have o4 := HD.out.cell 4 rfl; have p0 := HD.out.free 0 (by simp [V5]); have p1 := HD.out.free 1 (by simp [V5]); have p2 := HD.out.free 2 (by simp [V5]); have p3 := HD.out.free 3 (by simp [V5]); have p4 := HD.out.free 4 (by simp [V5])
                     have y0 := HX.out.cell 0 rfl; have y1 := HX.out.cell 1 rfl; have y2 := HX.out.cell 2 rfl; have y3 := HX.out.cell 3 rfl; have y4 := HX.out.cell 4 rfl
                     clear hB)
        refine bodyPost_ret (pr_res rfl rfl (st5_blk HD.out _ _ _ _ _)) rfl ?_
        refine ⟨d, 0, l5, n5, c5, rfl, HF.out.same (fun x hx hlt => (st5_kept _ _ _ _ _).block x hlt (fun e => by unfold N1 at e; omega)) (fun x hx _ => by omega), ((Kept.of' (N := N1 w.heap.size) HB3.out).trans (st5_kept _ _ _ _ _)).below (Nat.le_refl _) (fun x hx e => by unfold N1 at e; omega), .inl ⟨rfl, a', rfl, HBE.out, HVD.out⟩⟩
    · have hne : ((a' : Int) != (S.size : Int)) = true := by simp; omega
      have HNB := Lib.hid hb
      have o0 := HD.out.cell 0 rfl; have o1 := HD.out.cell 1 rfl; have o2 := HD.out.cell 2 rfl; have o3 := HD.out.cell 3 rfl; have o4 := HD.out.cell 4 rfl; have p0 := HD.out.free 0 (by simp [V5]); have p1 := HD.out.free 1 (by simp [V5]); have p2 := HD.out.free 2 (by simp [V5]); have p3 := HD.out.free 3 (by simp [V5]); have p4 := HD.out.free 4 (by simp [V5])
      clear hb
      go_wp2_with fail
      exact pr_none rfl rfl HD.out HB.out (fun d' b' h e => by cases h; exact HNB.out e.1)
  · have HBAD := Lib.hid hbad
    have o0 := HD.out.cell 0 rfl; have o1 := HD.out.cell 1 rfl; have o2 := HD.out.cell 2 rfl; have o3 := HD.out.cell 3 rfl; have o4 := HD.out.cell 4 rfl; have p0 := HD.out.free 0 (by simp [V5]); have p1 := HD.out.free 1 (by simp [V5]); have p2 := HD.out.free 2 (by simp [V5]); have p3 := HD.out.free 3 (by simp [V5]); have p4 := HD.out.free 4 (by simp [V5])
    clear hbad
    go_wp2_with fail
    exact pr_none rfl rfl HD.out HB.out (fun d' b' h e => by
      rcases HBAD.out with h1 | ⟨d, b9, h1, h2⟩
      · rw [h1] at h; cases h
      · rw [h1] at h; cases h; rw [many_bad h2] at e; cases e.2)
  · have hne : ((a' : Int) != (S.size : Int)) = true := by simp; omega
    have o0 := HD.out.cell 0 rfl; have o1 := HD.out.cell 1 rfl; have o2 := HD.out.cell 2 rfl; have o3 := HD.out.cell 3 rfl; have o4 := HD.out.cell 4 rfl; have p0 := HD.out.free 0 (by simp [V5]); have p1 := HD.out.free 1 (by simp [V5]); have p2 := HD.out.free 2 (by simp [V5]); have p3 := HD.out.free 3 (by simp [V5]); have p4 := HD.out.free 4 (by simp [V5])
    clear h1 h2 h3
    go_wp2_with fail
    exact pr_none rfl rfl HD.out HB.out (fun d' b' h e => by cases h)
end Go.Proofs.YtofpdhkdnbnobaaDoor
