import Derived.Test.YtoninfccmonaiaaAskOpenN
import Derived.Outline
import Derived.RegionTactic
import Derived.ChangeAlike
namespace Go.Proofs.Ytoninfccmonaiaa
open Go.RowKit

set_option maxHeartbeats 4000000 in
set_option maxRecDepth 100000 in
theorem openR_full (next : Int) (l : List Ask) (a : Option Addr) (n cap : Nat) (topic : ByteArray) (til : Int) (w : World) (h : Asks w a n cap l) (hn : n ≤ 100000) (hf : fullA next n = true) :
    Calls Try.prog 19 #[.agg #[.int .i64 next, .slice a n cap], .string topic, .int .i64 til] w (StNum w next l n 0 190) := by
  have H := Lib.hid h; clear h
  have hcs : decide ((1024 : Int) ≤ (n : Int)) = true ∨ (decide ((1024 : Int) ≤ (n : Int)) = false ∧ decide ((4611686018427387904 : Int) ≤ next) = true) := by
    unfold fullA at hf
    simp at hf ⊢
    omega
  clear hf
  go_enter Try.func19, Try.ntmps19
  have HX := Lib.hid ((Two.new w (.int .i64 next) (.slice a n cap) 37).alloc (Obj.cells #[Value.int .i64 0, Value.slice none 0 0] 37))
  have HT := Lib.hid (Two.new (w.alloc (Obj.cells #[Value.int .i64 next, Value.slice a n cap] 37)) (.int .i64 0) (.slice none 0 0) 37)
  have HB := Lib.hid (((Below.refl _ w).alloc (Nat.le_refl _) (Obj.cells #[Value.int .i64 next, Value.slice a n cap] 37)).alloc (by simp) (Obj.cells #[Value.int .i64 0, Value.slice none 0 0] 37))
  simp only [World.size_alloc] at HT
  go_wp2_with fail
  refine (askCopy next l a n cap _ (H.out.below HB.out) hn).mono ?_
  rintro e w1 ⟨a1, c1, rfl, hr1, hb1⟩
  have hs1 := hb1.size
  simp only [World.size_alloc] at hs1
  have HX1 := Lib.hid ((HX.out.later hb1).alloc (Obj.cells #[Value.int .i64 next, Value.slice a1 n c1] 37))
  have HT1 := Lib.hid ((HT.out.later hb1).alloc (Obj.cells #[Value.int .i64 next, Value.slice a1 n c1] 37))
  have HU1 := Lib.hid (Two.new w1 (.int .i64 next) (.slice a1 n c1) 37)
  have HR1 := Lib.hid (hr1.alloc (Obj.cells #[Value.int .i64 next, Value.slice a1 n c1] 37))
  have HB1 := Lib.hid ((HB.out.trans (hb1.mono (by simp; omega))).alloc (by omega) (Obj.cells #[Value.int .i64 next, Value.slice a1 n c1] 37))
  have f1 := cellAt hb1 HX.out.c0
  have f2 := cellAt hb1 HX.out.c1
  have g1 := cellAt hb1 HT.out.c0
  have g2 := cellAt hb1 HT.out.c1
  have g3 := freeAt hb1 HT.out.c0 HT.out.f0
  have g4 := freeAt hb1 HT.out.c1 HT.out.f1
  have HTp := Lib.hid (HT.out.later hb1)
  have HRp := Lib.hid hr1
  have HBp := Lib.hid (HB.out.trans (hb1.mono (by simp; omega)))
  clear hb1 hr1
  have hl1 : w.heap.size < w1.heap.size := by omega
  have hl2 : w.heap.size + 1 < w1.heap.size := by omega
  have HS := Lib.hid hs1; clear hs1
  have HT4 := Lib.hid (((HTp.out.set0 (.int .i64 next)).set1 (.slice a1 n c1)).alloc (Obj.cells #[Value.int .i64 next, Value.slice a1 n c1] 37))
  rcases hcs with hc | ⟨hc, hc2⟩
  · go_wp2
    refine bodyPost_ret (v := .tuple #[.agg #[.int .i64 next, .slice a1 n c1], .int .i64 0, .int .i64 190]) (by simp [results, Try.f19, go_sem, HT4.out.c0, HT4.out.c1]) rfl ?_
    exact ⟨a1, c1, rfl, (((HRp.out.put (p := ⟨w.heap.size + 1, 0, none⟩) (by simp) _).put (p := ⟨w.heap.size + 1, 1, none⟩) (by simp) _).alloc _).mono (by simp; omega), ((HBp.out.setCell (by simp) _).setCell (by simp) _).alloc (by simp; omega) _⟩
  · go_wp2
    refine bodyPost_ret (v := .tuple #[.agg #[.int .i64 next, .slice a1 n c1], .int .i64 0, .int .i64 190]) (by simp [results, Try.f19, go_sem, HT4.out.c0, HT4.out.c1]) rfl ?_
    exact ⟨a1, c1, rfl, (((HRp.out.put (p := ⟨w.heap.size + 1, 0, none⟩) (by simp) _).put (p := ⟨w.heap.size + 1, 1, none⟩) (by simp) _).alloc _).mono (by simp; omega), ((HBp.out.setCell (by simp) _).setCell (by simp) _).alloc (by simp; omega) _⟩

set_option maxHeartbeats 4000000 in
set_option maxRecDepth 100000 in
theorem openR_room (next : Int) (l : List Ask) (a : Option Addr) (n cap : Nat) (topic : ByteArray) (til : Int) (w : World) (h : Asks w a n cap l) (hn : n ≤ 100000) (h0 : 0 ≤ next) (hf : fullA next n = false) :
    Calls Try.prog 19 #[.agg #[.int .i64 next, .slice a n cap], .string topic, .int .i64 til] w (StNum w (next + 1) (l ++ [(next + 1, til, topic)]) (n + 1) (next + 1) 0) := by
  obtain ⟨i0, hi, hy0, hy1, hy2⟩ := info_parts Try.info53
  have H := Lib.hid h; clear h
  have hcs : decide ((1024 : Int) ≤ (n : Int)) = false ∧ decide ((4611686018427387904 : Int) ≤ next) = false := by
    unfold fullA at hf
    simp at hf ⊢
    omega
  have hnx : next < 4611686018427387904 := by unfold fullA at hf; simp at hf; omega
  obtain ⟨hc, hc2⟩ := hcs
  clear hf
  go_enter Try.func19, Try.ntmps19
  have HX := Lib.hid ((Two.new w (.int .i64 next) (.slice a n cap) 37).alloc (Obj.cells #[Value.int .i64 0, Value.slice none 0 0] 37))
  have HT := Lib.hid (Two.new (w.alloc (Obj.cells #[Value.int .i64 next, Value.slice a n cap] 37)) (.int .i64 0) (.slice none 0 0) 37)
  have HB := Lib.hid (((Below.refl _ w).alloc (Nat.le_refl _) (Obj.cells #[Value.int .i64 next, Value.slice a n cap] 37)).alloc (by simp) (Obj.cells #[Value.int .i64 0, Value.slice none 0 0] 37))
  simp only [World.size_alloc] at HT
  go_wp2_with fail
  refine (askCopy next l a n cap _ (H.out.below HB.out) hn).mono ?_
  rintro e w1 ⟨a1, c1, rfl, hr1, hb1⟩
  have hs1 := hb1.size
  simp only [World.size_alloc] at hs1
  have HX2 := Lib.hid ((HX.out.later hb1).alloc (Obj.cells #[Value.int .i64 (next + 1), Value.slice a1 n c1] 37))
  have HT2 := Lib.hid ((HT.out.later hb1).alloc (Obj.cells #[Value.int .i64 (next + 1), Value.slice a1 n c1] 37))
  have HU2 := Lib.hid (Two.new w1 (.int .i64 (next + 1)) (.slice a1 n c1) 37)
  have HR2 := Lib.hid (hr1.alloc (Obj.cells #[Value.int .i64 (next + 1), Value.slice a1 n c1] 37))
  have HB2 := Lib.hid ((HB.out.trans (hb1.mono (by simp; omega))).alloc (by omega) (Obj.cells #[Value.int .i64 (next + 1), Value.slice a1 n c1] 37))
  have hrl : ∀ j, blockOf a1 = some j → j < w1.heap.size := fun j hj => (hr1.lt j hj).2
  have f1 := cellAt hb1 HX.out.c0
  have f2 := cellAt hb1 HX.out.c1
  have g1 := cellAt hb1 HT.out.c0
  have g2 := cellAt hb1 HT.out.c1
  have g3 := freeAt hb1 HT.out.c0 HT.out.f0
  have g4 := freeAt hb1 HT.out.c1 HT.out.f1
  clear hb1 hr1
  have hl1 : w.heap.size < w1.heap.size := by omega
  have hl2 : w.heap.size + 1 < w1.heap.size := by omega
  simp only [World.size_alloc] at HR2
  have hnb : blockOf a1 ≠ some w1.heap.size := fun e => by have := hrl _ e; omega
  have HNB := Lib.hid hnb; clear hnb hrl
  go_wp2_with (at_builtin; go_must (refine wpList_append_row rfl _ _ 35 35 rfl 53 i0 (.agg #[.int .i64 0, .int .i64 0, .string ByteArray.empty]) 3 32 Try.underlying35 hi hy0 hy1 hy2 rfl rfl (HR2.out.alloc _) 1 (askV (next + 1, til, topic)) (Src.oneRow Try.underlying35 (askV (next + 1, til, topic)) _ 53 (by simp) rfl rfl (askV_one _)) (by unfold maxLen; omega) (by omega) (by simp; omega) ?_; intro a' c' w' hrow' hgr' hbk'; have HR' := Lib.hid hrow'; have HG' := Lib.hid hgr'; have HK' := Lib.hid hbk'; have HXX := Lib.hid ((HU2.out.alloc (Obj.cells #[Value.int .i64 (next + 1), Value.int .i64 til, Value.string topic] 53)).gr hgr' (fun e => HNB.out e.symm)); have HTT := Lib.hid ((HT2.out.alloc (Obj.cells #[Value.int .i64 (next + 1), Value.int .i64 til, Value.string topic] 53)).gr hgr' (fun e => by have := (HR2.out.lt _ e.symm).1; omega)); have uu := HXX.out; obtain ⟨u0, u1, u2, u3⟩ := uu; have vv := HTT.out; obtain ⟨v0, v1, v2, v3⟩ := vv; clear hrow' hgr' hbk'))
  have HXZ := Lib.hid (HXX.out.set1 (.slice a' (n + 1) c'))
  have HTZ := Lib.hid (HTT.out.put (p := ⟨w1.heap.size, 1, none⟩) (by simp; omega) (.slice a' (n + 1) c'))
  have hnb' : blockOf a' ≠ some w1.heap.size := by
    rcases HK'.out with e | e
    · rw [e]; exact HNB.out
    · rw [e]; simp only [World.size_alloc, ne_eq, Option.some.injEq]; omega
  have HRZ := Lib.hid (HR'.out.kept (grownBy_setAt w' ⟨w1.heap.size, 1, none⟩ (.slice a' (n + 1) c')) (.inl hnb'))
  have hne := HR2.out.lt
  have hbz := (((HB2.out.alloc (by simp; omega) (Obj.cells #[Value.int .i64 (next + 1), Value.int .i64 til, Value.string topic] 53)).grown HG'.out (by simp; omega) (fun j hj => by have := (hne j hj).1; omega))).setCell (p := ⟨w1.heap.size, 1, none⟩) (by simp; omega) (.slice a' (n + 1) c')
  have HBZ := Lib.hid hbz; clear hbz hne hnb'
  clear u0 u1 u2 u3 v0 v1 v2 v3 f1 f2 g1 g2 g3 g4
  generalize w'.setCell ⟨w1.heap.size, 1, none⟩ (.slice a' (n + 1) c') = wz at HXZ HTZ HRZ HBZ ⊢
  obtain ⟨u0, u1, u2, u3⟩ := HXZ.out
  obtain ⟨v0, v1, v2, v3⟩ := HTZ.out
  go_region
  go_wp2
  have hT := ((HTZ.out.set0 (.int .i64 (next + 1))).set1 (.slice a' (n + 1) c')).later (Below.refl _ _).drew
  refine bodyPost_ret (v := .tuple #[.agg #[.int .i64 (next + 1), .slice a' (n + 1) c'], .int .i64 (next + 1), .int .i64 0]) (by simp [results, Try.f19, go_sem, hT.c0, hT.c1]) rfl ?_
  refine ⟨a', c', rfl, ?_, ((HBZ.out.setCell (by simp) _).setCell (by simp) _).drew⟩
  rw [← askC_snoc]
  exact ((HRZ.out.put (p := ⟨w.heap.size + 1, 0, none⟩) (by simp) _).put (p := ⟨w.heap.size + 1, 1, none⟩) (by simp) _).drew.mono (by omega)

theorem openN_to {next : Int} {l : List Ask} {a : Option Addr} {n cap : Nat} (topic : ByteArray) (til : Int) {w : World} (h : Asks w a n cap l) (hn : n ≤ 100000) (h0 : 0 ≤ next) :
    Calls Try.prog 18 #[.agg #[.int .i64 next, .slice a n cap], .string topic, .int .i64 til] w (OpenPost w next l topic til) := by
  unfold OpenPost
  rw [h.len]
  cases hf : fullA next n with
  | true => simp only [if_true]; exact openN_full next l a n cap topic til w h hn hf
  | false => simp only [Bool.false_eq_true, if_false]; exact openN_room next l a n cap topic til w h hn h0 hf
theorem openR_to {next : Int} {l : List Ask} {a : Option Addr} {n cap : Nat} (topic : ByteArray) (til : Int) {w : World} (h : Asks w a n cap l) (hn : n ≤ 100000) (h0 : 0 ≤ next) :
    Calls Try.prog 19 #[.agg #[.int .i64 next, .slice a n cap], .string topic, .int .i64 til] w (OpenPost w next l topic til) := by
  unfold OpenPost
  rw [h.len]
  cases hf : fullA next n with
  | true => simp only [if_true]; exact openR_full next l a n cap topic til w h hn hf
  | false => simp only [Bool.false_eq_true, if_false]; exact openR_room next l a n cap topic til w h hn h0 hf
end Go.Proofs.Ytoninfccmonaiaa
