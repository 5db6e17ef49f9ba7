import Derived.Test.YtoninfccmonaiaaAskPlain
import Derived.Test.YtoninfccmonaiaaAskCopy
import Derived.Outline
import Derived.RegionTactic
import Derived.ChangeAlike
namespace Go.Proofs.Ytoninfccmonaiaa
open Go.RowKit

def ARow (w : World) (n : Nat) (l : List Ask) (e : Ending) (w' : World) : Prop :=
  ∃ a cap, e = .returned (.slice a n cap) ∧ Row w.heap.size w' 3 a n cap (askC l) ∧ Below w.heap.size w w'

set_option maxHeartbeats 400000 in
theorem cloneA (a : Option Addr) (n cap : Nat) (l : List Ask) (w : World) (h : Asks w a n cap l) (hn : n ≤ 100000) :
    Calls Try.prog 28 #[.slice a n cap] w (ARow w n l) := by
  obtain ⟨i0, hi, hz0, hz1, hz2⟩ := info_parts Try.info53
  have q22 : ∀ (w : World) (a : Option Addr) (n c n' c' : Nat), (binOp .eql 35 (.slice a n c) (.slice none n' c')).run Try.prog w = .ok (.bool a.isNone) w := fun w a n c n' c' => Lib.run_eql_slice_nil w _ _ a n c n' c' Try.underlying35
  cases a with
  | none =>
    obtain ⟨rfl, rfl⟩ := Rd.none0 h
    have hx : l = [] := List.eq_nil_of_length_eq_zero (by simpa using h.len)
    subst hx
    clear h
    go_enter Try.func28, Try.ntmps28
    go_wp2
    go_ret
    exact ⟨none, 0, rfl, Row.nil _ _ _, Below.refl _ _⟩
  | some a =>
    have H := Lib.hid h; clear h
    go_enter Try.func28, Try.ntmps28
    go_wp2_with (at_builtin; go_must (refine wpList_append_row rfl _ _ 35 35 rfl 53 i0 (.agg #[.int .i64 0, .int .i64 0, .string ByteArray.empty]) 3 32 Try.underlying35 hi hz0 hz1 hz2 rfl rfl (Row.empty w 53 3) n (askC l) (Src.ofRd Try.underlying35 (Rd.alloc H.out _) (askC_one _)) (by unfold maxLen; omega) (by omega) (by simp) ?_); intro a' cap' w' hrow hgr _)
    go_ret
    rw [Nat.zero_add, List.nil_append] at hrow
    exact ⟨a', cap', by simp, hrow, ((Below.refl _ w).alloc (Nat.le_refl _) _).grown hgr (by simp) (fun k hk => by simp [blockOf] at hk; omega)⟩

def fullA (next : Int) (n : Nat) : Bool := decide (1024 ≤ n) || decide ((4611686018427387904 : Int) ≤ next)
/-- what Open hands back -/
def OpenPost (w : World) (next : Int) (l : List Ask) (topic : ByteArray) (til : Int) : Ending → World → Prop :=
  if fullA next l.length then StNum w next l l.length 0 190 else StNum w (next + 1) (l ++ [(next + 1, til, topic)]) (l.length + 1) (next + 1) 0

set_option maxHeartbeats 4000000 in
set_option maxRecDepth 100000 in
theorem openN_full (next : Int) (l : List Ask) (a : Option Addr) (n cap : Nat) (topic : ByteArray) (til : Int) (w : World) (h : Asks w a n cap l) (hn : n ≤ 100000) (hf : fullA next n = true) :
    Calls Try.prog 18 #[.agg #[.int .i64 next, .slice a n cap], .string topic, .int .i64 til] w (StNum w next l n 0 190) := by
  have H := Lib.hid h; clear h
  have hcs : decide ((1024 : Int) ≤ (n : Int)) = true ∨ (decide ((1024 : Int) ≤ (n : Int)) = false ∧ decide ((4611686018427387904 : Int) ≤ next) = true) := by
    unfold fullA at hf
    simp at hf ⊢
    omega
  clear hf
  go_enter Try.func18, Try.ntmps18
  have HX := Lib.hid ((Two.new w (.int .i64 next) (.slice a n cap) 37).alloc (Obj.cells #[Value.int .i64 0, Value.slice none 0 0] 37))
  have HT := Lib.hid (Two.new (w.alloc (Obj.cells #[Value.int .i64 next, Value.slice a n cap] 37)) (.int .i64 0) (.slice none 0 0) 37)
  have HB := Lib.hid (((Below.refl _ w).alloc (Nat.le_refl _) (Obj.cells #[Value.int .i64 next, Value.slice a n cap] 37)).alloc (by simp) (Obj.cells #[Value.int .i64 0, Value.slice none 0 0] 37))
  simp only [World.size_alloc] at HT
  go_wp2_with fail
  refine (cloneA a n cap l _ (H.out.below HB.out) hn).mono ?_
  rintro e w1 ⟨a1, c1, rfl, hr1, hb1⟩
  have hs1 := hb1.size
  simp only [World.size_alloc] at hs1
  have HX1 := Lib.hid (HX.out.later hb1)
  have HT1 := Lib.hid (HT.out.later hb1)
  have HR1 := Lib.hid hr1
  have HB1 := Lib.hid (HB.out.trans (hb1.mono (by simp; omega)))
  clear hr1 hb1
  have HT2 := Lib.hid (HT1.out.put (p := ⟨w.heap.size, 1, none⟩) (by simp) (.slice a1 n c1))
  have HX2 := Lib.hid (HX1.out.set1 (.slice a1 n c1))
  have HR2 := Lib.hid (HR1.out.put (p := ⟨w.heap.size, 1, none⟩) (by simp; omega) (.slice a1 n c1))
  have HB2 := Lib.hid (HB1.out.setCell (p := ⟨w.heap.size, 1, none⟩) (by simp) (.slice a1 n c1))
  obtain ⟨p0, p1, p2, p3⟩ := HX1.out
  obtain ⟨q0, q1, q2, q3⟩ := HT1.out
  have HT4 := Lib.hid ((HT2.out.set0 (.int .i64 next)).set1 (.slice a1 n c1))
  rcases hcs with hc | ⟨hc, hc2⟩
  · go_wp2
    refine bodyPost_ret (v := .tuple #[.agg #[.int .i64 next, .slice a1 n c1], .int .i64 0, .int .i64 190]) (by simp [results, Try.f18, go_sem, HT4.out.c0, HT4.out.c1]) rfl ?_
    exact ⟨a1, c1, rfl, ((HR2.out.put (p := ⟨w.heap.size + 1, 0, none⟩) (by simp) _).put (p := ⟨w.heap.size + 1, 1, none⟩) (by simp) _).mono (by simp; omega), (HB2.out.setCell (by simp) _).setCell (by simp) _⟩
  · go_wp2
    refine bodyPost_ret (v := .tuple #[.agg #[.int .i64 next, .slice a1 n c1], .int .i64 0, .int .i64 190]) (by simp [results, Try.f18, go_sem, HT4.out.c0, HT4.out.c1]) rfl ?_
    exact ⟨a1, c1, rfl, ((HR2.out.put (p := ⟨w.heap.size + 1, 0, none⟩) (by simp) _).put (p := ⟨w.heap.size + 1, 1, none⟩) (by simp) _).mono (by simp; omega), (HB2.out.setCell (by simp) _).setCell (by simp) _⟩

set_option maxHeartbeats 4000000 in
set_option maxRecDepth 100000 in
theorem openN_room (next : Int) (l : List Ask) (a : Option Addr) (n cap : Nat) (topic : ByteArray) (til : Int) (w : World) (h : Asks w a n cap l) (hn : n ≤ 100000) (h0 : 0 ≤ next) (hf : fullA next n = false) :
    Calls Try.prog 18 #[.agg #[.int .i64 next, .slice a n cap], .string topic, .int .i64 til] w (StNum w (next + 1) (l ++ [(next + 1, til, topic)]) (n + 1) (next + 1) 0) := by
  obtain ⟨i0, hi, hy0, hy1, hy2⟩ := info_parts Try.info53
  have H := Lib.hid h; clear h
  have hcs : decide ((1024 : Int) ≤ (n : Int)) = false ∧ decide ((4611686018427387904 : Int) ≤ next) = false := by
    unfold fullA at hf
    simp at hf ⊢
    omega
  have hnx : next < 4611686018427387904 := by unfold fullA at hf; simp at hf; omega
  obtain ⟨hc, hc2⟩ := hcs
  clear hf
  go_enter Try.func18, Try.ntmps18
  have HX := Lib.hid ((Two.new w (.int .i64 next) (.slice a n cap) 37).alloc (Obj.cells #[Value.int .i64 0, Value.slice none 0 0] 37))
  have HT := Lib.hid (Two.new (w.alloc (Obj.cells #[Value.int .i64 next, Value.slice a n cap] 37)) (.int .i64 0) (.slice none 0 0) 37)
  have HB := Lib.hid (((Below.refl _ w).alloc (Nat.le_refl _) (Obj.cells #[Value.int .i64 next, Value.slice a n cap] 37)).alloc (by simp) (Obj.cells #[Value.int .i64 0, Value.slice none 0 0] 37))
  simp only [World.size_alloc] at HT
  go_wp2_with fail
  refine (cloneA a n cap l _ (H.out.below HB.out) hn).mono ?_
  rintro e w1 ⟨a1, c1, rfl, hr1, hb1⟩
  have hs1 := hb1.size
  simp only [World.size_alloc] at hs1
  have HX1 := Lib.hid (HX.out.later hb1)
  have HT1 := Lib.hid (HT.out.later hb1)
  have HR1 := Lib.hid hr1
  have HB1 := Lib.hid (HB.out.trans (hb1.mono (by simp; omega)))
  clear hr1 hb1
  obtain ⟨p0, p1, p2, p3⟩ := HX1.out
  obtain ⟨q0, q1, q2, q3⟩ := HT1.out
  have HR3 := Lib.hid ((HR1.out.put (p := ⟨w.heap.size, 1, none⟩) (by simp; omega) (.slice a1 n c1)).put (p := ⟨w.heap.size, 0, none⟩) (by simp; omega) (.int .i64 (next + 1)))
  have HX3 := Lib.hid ((HX1.out.set1 (.slice a1 n c1)).set0 (.int .i64 (next + 1)))
  have HT3 := Lib.hid ((HT1.out.put (p := ⟨w.heap.size, 1, none⟩) (by simp) (.slice a1 n c1)).put (p := ⟨w.heap.size, 0, none⟩) (by simp) (.int .i64 (next + 1)))
  have HB3 := Lib.hid ((HB1.out.setCell (p := ⟨w.heap.size, 1, none⟩) (by simp) (.slice a1 n c1)).setCell (p := ⟨w.heap.size, 0, none⟩) (by simp) (.int .i64 (next + 1)))
  simp only [World.size_alloc] at HR3
  go_wp2_with (at_builtin; go_must (refine wpList_append_row rfl _ _ 35 35 rfl 53 i0 (.agg #[.int .i64 0, .int .i64 0, .string ByteArray.empty]) 3 32 Try.underlying35 hi hy0 hy1 hy2 rfl rfl (HR3.out.alloc _) 1 (askV (next + 1, til, topic)) (Src.oneRow Try.underlying35 (askV (next + 1, til, topic)) _ 53 (by simp) rfl rfl (askV_one _)) (by unfold maxLen; omega) (by omega) (by simp; omega) ?_; intro a' c' w' hrow' hgr' _; have HR' := Lib.hid hrow'; have HG' := Lib.hid hgr'; have HXX := Lib.hid ((HX3.out.alloc (Obj.cells #[Value.int .i64 (next + 1), Value.int .i64 til, Value.string topic] 53)).gr hgr' (fun e => by have := HR3.out.lt _ e.symm; omega)); have HTT := Lib.hid ((HT3.out.alloc (Obj.cells #[Value.int .i64 (next + 1), Value.int .i64 til, Value.string topic] 53)).gr hgr' (fun e => by have := HR3.out.lt _ e.symm; omega)); have uu := HXX.out; obtain ⟨u0, u1, u2, u3⟩ := uu; have vv := HTT.out; obtain ⟨v0, v1, v2, v3⟩ := vv; clear hrow' hgr'))
  have HXZ := Lib.hid (HXX.out.set1 (.slice a' (n + 1) c'))
  have HTZ := Lib.hid (HTT.out.put (p := ⟨w.heap.size, 1, none⟩) (by simp) (.slice a' (n + 1) c'))
  have HRZ := Lib.hid (HR'.out.put (p := ⟨w.heap.size, 1, none⟩) (by simp; omega) (.slice a' (n + 1) c'))
  have hne := HR3.out.lt
  have hbz := (((HB3.out.alloc (by simp; omega) (Obj.cells #[Value.int .i64 (next + 1), Value.int .i64 til, Value.string topic] 53)).grown HG'.out (by simp; omega) (fun j hj => by have := (hne j hj).1; omega))).setCell (p := ⟨w.heap.size, 1, none⟩) (by simp) (.slice a' (n + 1) c')
  have HBZ := Lib.hid hbz; clear hbz hne
  clear u0 u1 u2 u3 v0 v1 v2 v3 p0 p1 p2 p3 q0 q1 q2 q3
  generalize w'.setCell ⟨w.heap.size, 1, none⟩ (.slice a' (n + 1) c') = wz at HXZ HTZ HRZ HBZ ⊢
  obtain ⟨u0, u1, u2, u3⟩ := HXZ.out
  obtain ⟨v0, v1, v2, v3⟩ := HTZ.out
  go_region
  go_wp2
  have hT := ((HTZ.out.set0 (.int .i64 (next + 1))).set1 (.slice a' (n + 1) c')).later (Below.refl _ _).drew
  refine bodyPost_ret (v := .tuple #[.agg #[.int .i64 (next + 1), .slice a' (n + 1) c'], .int .i64 (next + 1), .int .i64 0]) (by simp [results, Try.f18, go_sem, hT.c0, hT.c1]) rfl ?_
  refine ⟨a', c', rfl, ?_, ((HBZ.out.setCell (by simp) _).setCell (by simp) _).drew⟩
  rw [← askC_snoc]
  exact ((HRZ.out.put (p := ⟨w.heap.size + 1, 0, none⟩) (by simp) _).put (p := ⟨w.heap.size + 1, 1, none⟩) (by simp) _).drew.mono (by omega)

end Go.Proofs.Ytoninfccmonaiaa
