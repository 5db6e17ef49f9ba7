/-
  Parse (walk). Not a statement of the seat.
-/
import Derived.Test.YtofpdhkdnbnobaaDoorLook
namespace Go.Proofs.YtofpdhkdnbnobaaDoor
open Go.RowKit

/-- the world behind Parse's first two statements -/
def pw (w : World) (S : ByteArray) : World :=
  (w.alloc (.cells #[.int .i64 0, .int .i64 0, .int .u64 0, .string ⟨#[]⟩, .slice none 0 0] 25)).alloc (.cells #[.string S, .int .i64 0, .int .i64 0, .bool false] 60)
theorem pw_facts (w : World) (S : ByteArray) : Blk (pw w S) w.heap.size (V5 0 0 0 ⟨#[]⟩ none 0 0) ∧ Rdr (pw w S) (w.heap.size + 1) S 0 0 false ∧ Below w.heap.size w (pw w S) := by
  refine ⟨(Blk.new w _ _).alloc _, ?_, ((Below.refl _ w).alloc (Nat.le_refl _) _).alloc (by simp) _⟩
  have := Blk.new (w.alloc (.cells #[.int .i64 0, .int .i64 0, .int .u64 0, .string ⟨#[]⟩, .slice none 0 0] 25)) #[.string S, .int .i64 0, .int .i64 0, .bool false] 60
  simpa [pw, Rdr] using this

/-- what Parse comes to -/
def PP (S : ByteArray) (w : World) (res : Res Dt) (e : Ending) (w' : World) : Prop :=
  ∃ d err l n c, e = .returned (.tuple #[.agg #[.int .i64 d.k, .int .i64 d.i, .int .u64 d.b, .string ⟨d.t.toArray⟩, .slice l n c], .int .i64 err]) ∧ FoAt (fun x => w.heap.size ≤ x) w' d.l l n c ∧ Below w.heap.size w w' ∧
    ((err = 0 ∧ ∃ b, res = .ok d b ∧ b = S.size ∧ validD d = true) ∨ (err = 14 ∧ d = Dt.zero ∧ ∀ d' b, res = .ok d' b → ¬ (b = S.size ∧ validD d' = true)))

theorem p_res {tmps : Array Value} {w : World} {db : Nat} {v0 v1 v2 v3 v4 u : Value} (ht : tmps.getD 2 undef = .pointer (some ⟨db, 0, none⟩)) (hu : tmps.getD 3 undef = u) (h : Blk w db [v0, v1, v2, v3, v4]) :
    (results Tryd.f15 tmps).run Tryd.prog w = .ok (.tuple #[.agg #[v0, v1, v2, v3, v4], u]) w := by
  have c0 := h.cell 0 rfl
  have c1 := h.cell 1 rfl
  have c2 := h.cell 2 rfl
  have c3 := h.cell 3 rfl
  have c4 := h.cell 4 rfl
  have ht' : tmps[2]?.getD undef = .pointer (some ⟨db, 0, none⟩) := by simpa using ht
  have hu' : tmps[3]?.getD undef = u := by simpa using hu
  simp [results, Tryd.results15, go_sem, ht', hu', c0, c1, c2, c3, c4]
theorem p_none {S : ByteArray} {w w9 : World} {res : Res Dt} {tmps : Array Value} (ht : tmps.getD 2 undef = .pointer (some ⟨w.heap.size, 0, none⟩)) (hu : tmps.getD 3 undef = .int .i64 14) (h : Blk w9 w.heap.size (V5 0 0 0 ⟨#[]⟩ none 0 0)) (hB : Below w.heap.size w w9)
    (hres : ∀ d' b, res = .ok d' b → ¬ (b = S.size ∧ validD d' = true)) :
    bodyPost Tryd.prog Tryd.f15 (PP S w res) Exit.ret { tmps := tmps, defers := [] } (st5 w9 w.heap.size (.int .i64 0) (.int .i64 0) (.int .u64 0) (.string ⟨#[]⟩) (.slice none 0 0)) := by
  refine bodyPost_ret (p_res ht hu (st5_blk h _ _ _ _ _)) rfl ?_
  exact ⟨Dt.zero, 14, none, 0, 0, rfl, FoAt.nil _ _, ((Kept.of' (N := N1 w.heap.size) hB).trans (st5_kept _ _ _ _ _)).below (Nat.le_refl _) (fun x hx e => by unfold N1 at e; omega), .inr ⟨rfl, rfl, hres⟩⟩

set_option maxHeartbeats 4000000 in
set_option maxRecDepth 100000 in
theorem parseV {S : ByteArray} {f : Nat} {w : World} (hV : VOK S f) (hL : Lb w) (ho : valueM S.data.toList f 0 0 ≠ .out) :
    Calls Tryd.prog 15 #[.string S] w (PP S w (valueM S.data.toList f 0 0)) := by
  have HW := Lib.hid (pw_facts w S)
  have HC := Lib.hid (hV (w.heap.size + 1) 0 0 (pw w S) HW.out.2.1 (Nat.zero_le _) (by omega) (hL.below HW.out.2.2 hL.size) (by have := hL.size; omega) ho)
  generalize valueM S.data.toList f 0 0 = res at *
  have HO := Lib.hid ho
  clear hV hL ho
  go_enter Tryd.func15, Tryd.ntmps15
  go_upto_region 2 with (fail)
  change Code.wp _ _ _ _ (pw w S)
  generalize pw w S = w1 at *
  have hrb9 : w.heap.size + 1 < w1.heap.size := HW.out.2.1.lt
  have HRB := Lib.hid hrb9
  cases res with
  | out => exact absurd rfl HO.out
  | bad =>
    go_wp2_with (first
      | (go_at_call 36; refine HC.out.mono ?_; rintro e w2 ⟨k5, i5, b5, t5, l5, n5, c5, rfl, ⟨a', hR, hle⟩, hK⟩
         have HR := Lib.hid (Blk.alloc hR (.cells #[.int .i64 k5, .int .i64 i5, .int .u64 b5, .string t5, .slice l5 n5 c5] 25))
         have HD := Lib.hid (Blk.alloc (HW.out.1.keep hK (by unfold N1; omega)) (.cells #[.int .i64 k5, .int .i64 i5, .int .u64 b5, .string t5, .slice l5 n5 c5] 25))
         have HB := Lib.hid ((HW.out.2.2.trans (hK.below (Nat.le_of_lt (Nat.lt_of_succ_lt HRB.out)) (fun x hx e => by unfold N1 at e; omega))).alloc (Nat.le_trans HW.out.2.2.size hK.size) (.cells #[.int .i64 k5, .int .i64 i5, .int .u64 b5, .string t5, .slice l5 n5 c5] 25))
         have c3 := HR.out.cell 3 rfl
         have o0 := HD.out.cell 0 rfl; have o1 := HD.out.cell 1 rfl; have o2 := HD.out.cell 2 rfl; have o3 := HD.out.cell 3 rfl; have o4 := HD.out.cell 4 rfl; have p0 := HD.out.free 0 (by simp [V5]); have p1 := HD.out.free 1 (by simp [V5]); have p2 := HD.out.free 2 (by simp [V5]); have p3 := HD.out.free 3 (by simp [V5]); have p4 := HD.out.free 4 (by simp [V5])
         clear hR hle hK))
    exact p_none rfl rfl HD.out HB.out (fun d' b h => by cases h)
  | ok d b =>
    by_cases hb : b = S.size
    · have hne : ((b : Int) != (S.size : Int)) = false := by simp [hb]
      cases hvd : validD d
      · go_wp2_with (first
          | (go_at_call 36; refine HC.out.mono ?_; rintro e w2 ⟨l5, n5, c5, rfl, hF, ⟨hR, hle⟩, hK⟩
             have HR := Lib.hid (Blk.alloc hR (.cells #[.int .i64 d.k, .int .i64 d.i, .int .u64 d.b, .string ⟨d.t.toArray⟩, .slice l5 n5 c5] 25))
             have HD := Lib.hid (Blk.alloc (HW.out.1.keep hK (by unfold N1; omega)) (.cells #[.int .i64 d.k, .int .i64 d.i, .int .u64 d.b, .string ⟨d.t.toArray⟩, .slice l5 n5 c5] 25))
             have HB := Lib.hid ((HW.out.2.2.trans (hK.below (Nat.le_of_lt (Nat.lt_of_succ_lt HRB.out)) (fun x hx e => by unfold N1 at e; omega))).alloc (Nat.le_trans HW.out.2.2.size hK.size) (.cells #[.int .i64 d.k, .int .i64 d.i, .int .u64 d.b, .string ⟨d.t.toArray⟩, .slice l5 n5 c5] 25))
             have HX := Lib.hid (Blk.new w2 #[.int .i64 d.k, .int .i64 d.i, .int .u64 d.b, .string ⟨d.t.toArray⟩, .slice l5 n5 c5] 25)
             have HV := Lib.hid (validN (d := d) (w := w2.alloc (.cells #[.int .i64 d.k, .int .i64 d.i, .int .u64 d.b, .string ⟨d.t.toArray⟩, .slice l5 n5 c5] 25)) (FoAt.same (S' := fun x => x < w2.heap.size) hF (fun x hx hlt => ((Below.refl w2.heap.size w2).alloc (Nat.le_refl _) (.cells #[.int .i64 d.k, .int .i64 d.i, .int .u64 d.b, .string ⟨d.t.toArray⟩, .slice l5 n5 c5] 25)).block x hlt) (fun x _ hlt => hlt)) (fun x hx => by simp; omega))
             have c1 := HR.out.cell 1 rfl
             have c3 := HR.out.cell 3 rfl
             clear hR hle hK hF)
          | (go_at_call 19; refine HV.out.mono ?_; rintro e w3 ⟨rfl, hB⟩; rw [hvd]
             replace HD := Lib.hid (HD.out.below hB)
             have HB3 := Lib.hid (HB.out.trans (hB.mono HB.out.size))
             have o0 := HD.out.cell 0 rfl; have o1 := HD.out.cell 1 rfl; have o2 := HD.out.cell 2 rfl; have o3 := HD.out.cell 3 rfl; have o4 := HD.out.cell 4 rfl; have p0 := HD.out.free 0 (by simp [V5]); have p1 := HD.out.free 1 (by simp [V5]); have p2 := HD.out.free 2 (by simp [V5]); have p3 := HD.out.free 3 (by simp [V5]); have p4 := HD.out.free 4 (by simp [V5])
             clear hB))
        exact p_none rfl rfl HD.out HB3.out (fun d' b' h e => by cases h; rw [hvd] at e; cases e.2)
      · go_wp2_with (first
          | (go_at_call 36; refine HC.out.mono ?_; rintro e w2 ⟨l5, n5, c5, rfl, hF, ⟨hR, hle⟩, hK⟩
             have HR := Lib.hid (Blk.alloc hR (.cells #[.int .i64 d.k, .int .i64 d.i, .int .u64 d.b, .string ⟨d.t.toArray⟩, .slice l5 n5 c5] 25))
             have HD := Lib.hid (Blk.alloc (HW.out.1.keep hK (by unfold N1; omega)) (.cells #[.int .i64 d.k, .int .i64 d.i, .int .u64 d.b, .string ⟨d.t.toArray⟩, .slice l5 n5 c5] 25))
             have HB := Lib.hid ((HW.out.2.2.trans (hK.below (Nat.le_of_lt (Nat.lt_of_succ_lt HRB.out)) (fun x hx e => by unfold N1 at e; omega))).alloc (Nat.le_trans HW.out.2.2.size hK.size) (.cells #[.int .i64 d.k, .int .i64 d.i, .int .u64 d.b, .string ⟨d.t.toArray⟩, .slice l5 n5 c5] 25))
             have HX := Lib.hid (Blk.new w2 #[.int .i64 d.k, .int .i64 d.i, .int .u64 d.b, .string ⟨d.t.toArray⟩, .slice l5 n5 c5] 25)
             have HV := Lib.hid (validN (d := d) (w := w2.alloc (.cells #[.int .i64 d.k, .int .i64 d.i, .int .u64 d.b, .string ⟨d.t.toArray⟩, .slice l5 n5 c5] 25)) (FoAt.same (S' := fun x => x < w2.heap.size) hF (fun x hx hlt => ((Below.refl w2.heap.size w2).alloc (Nat.le_refl _) (.cells #[.int .i64 d.k, .int .i64 d.i, .int .u64 d.b, .string ⟨d.t.toArray⟩, .slice l5 n5 c5] 25)).block x hlt) (fun x _ hlt => hlt)) (fun x hx => by simp; omega))
             have HF := Lib.hid (FoAt.same (S' := fun x => w.heap.size + 2 ≤ x) hF (fun x hx hlt => ((Below.refl w2.heap.size w2).alloc (Nat.le_refl _) (.cells #[.int .i64 d.k, .int .i64 d.i, .int .u64 d.b, .string ⟨d.t.toArray⟩, .slice l5 n5 c5] 25)).block x hlt) (fun x hx _ => by have := HRB.out; omega))
             have c1 := HR.out.cell 1 rfl
             have c3 := HR.out.cell 3 rfl
             clear hR hle hK hF)
          | (go_at_call 19; refine HV.out.mono ?_; rintro e w3 ⟨rfl, hB⟩; rw [hvd]
             replace HD := Lib.hid (HD.out.below hB)
             replace HX := Lib.hid (HX.out.below hB)
             have HB3 := Lib.hid (HB.out.trans (hB.mono HB.out.size))
             replace HF := Lib.hid (HF.out.same (fun x hx hlt => hB.block x hlt) (fun x hx _ => hx))
             have o0 := HD.out.cell 0 rfl; have o1 := HD.out.cell 1 rfl; have o2 := HD.out.cell 2 rfl; have o3 := HD.out.cell 3 rfl; have o4 := HD.out.cell 4 rfl; have p0 := HD.out.free 0 (by simp [V5]); have p1 := HD.out.free 1 (by simp [V5]); have p2 := HD.out.free 2 (by simp [V5]); have p3 := HD.out.free 3 (by simp [V5]); have p4 := HD.out.free 4 (by simp [V5])
             have x0 := HX.out.cell 0 rfl; have x1 := HX.out.cell 1 rfl; have x2 := HX.out.cell 2 rfl; have x3 := HX.out.cell 3 rfl; have x4 := HX.out.cell 4 rfl
             clear hB))
        refine bodyPost_ret (p_res rfl rfl (st5_blk HD.out _ _ _ _ _)) rfl ?_
        refine ⟨d, 0, l5, n5, c5, rfl, HF.out.same (fun x hx hlt => (st5_kept _ _ _ _ _).block x hlt (fun e => by unfold N1 at e; omega)) (fun x hx _ => by omega), ((Kept.of' (N := N1 w.heap.size) HB3.out).trans (st5_kept _ _ _ _ _)).below (Nat.le_refl _) (fun x hx e => by unfold N1 at e; omega), .inl ⟨rfl, b, rfl, hb, hvd⟩⟩
    · have hne : ((b : Int) != (S.size : Int)) = true := by simp; omega
      go_wp2_with (first
          | (go_at_call 36; refine HC.out.mono ?_; rintro e w2 ⟨l5, n5, c5, rfl, hF, ⟨hR, hle⟩, hK⟩
             have HR := Lib.hid (Blk.alloc hR (.cells #[.int .i64 d.k, .int .i64 d.i, .int .u64 d.b, .string ⟨d.t.toArray⟩, .slice l5 n5 c5] 25))
             have HD := Lib.hid (Blk.alloc (HW.out.1.keep hK (by unfold N1; omega)) (.cells #[.int .i64 d.k, .int .i64 d.i, .int .u64 d.b, .string ⟨d.t.toArray⟩, .slice l5 n5 c5] 25))
             have HB := Lib.hid ((HW.out.2.2.trans (hK.below (Nat.le_of_lt (Nat.lt_of_succ_lt HRB.out)) (fun x hx e => by unfold N1 at e; omega))).alloc (Nat.le_trans HW.out.2.2.size hK.size) (.cells #[.int .i64 d.k, .int .i64 d.i, .int .u64 d.b, .string ⟨d.t.toArray⟩, .slice l5 n5 c5] 25))
             have c1 := HR.out.cell 1 rfl
             have c3 := HR.out.cell 3 rfl
             have o0 := HD.out.cell 0 rfl; have o1 := HD.out.cell 1 rfl; have o2 := HD.out.cell 2 rfl; have o3 := HD.out.cell 3 rfl; have o4 := HD.out.cell 4 rfl; have p0 := HD.out.free 0 (by simp [V5]); have p1 := HD.out.free 1 (by simp [V5]); have p2 := HD.out.free 2 (by simp [V5]); have p3 := HD.out.free 3 (by simp [V5]); have p4 := HD.out.free 4 (by simp [V5])
             clear hR hle hK hF))
      exact p_none rfl rfl HD.out HB.out (fun d' b' h e => by cases h; exact hb e.1)
end Go.Proofs.YtofpdhkdnbnobaaDoor
