/-
  Walks of slices.Clone, slices.Clip, dedup.Seen. Not a statement of the seat.
-/
import Derived.Test.YtoninfccmonaiaaKnows
import Derived.WalkSpells
import Derived.OwnWalk
import Derived.LoopTactic
import Derived.Outline
namespace Go.Proofs.Ytoninfccmonaiaa
open Go.RowKit

/-- hands back a slice of new memory that reads as xs; nothing that lay has turned -/
def RRow (w : World) (sz n : Nat) (xs : List Value) (e : Ending) (w' : World) : Prop :=
  ∃ a cap, e = .returned (.slice a n cap) ∧ Row w.heap.size w' sz a n cap xs ∧ Below w.heap.size w w'

theorem Try.info2 : (Try.prog.info? 2).map (fun i => (i.zero, i.size, i.bytes)) = some (some (.int .i64 0), 1, 8) := by kernel_rfl

set_option maxHeartbeats 400000 in
theorem clone (a : Option Addr) (n cap : Nat) (xs : List Value) (w : World) (h : Rd w 1 a n cap xs) (h1 : ∀ u ∈ xs, u.oneCell' = true) (hn : n ≤ 1000000000) :
    Calls Try.prog 25 #[.slice a n cap] w (RRow w 1 n xs) := by
  obtain ⟨i0, hi, hz0, hz1, hz2⟩ := info_parts Try.info2
  have q22 : ∀ (w : World) (a : Option Addr) (n c n' c' : Nat), (binOp .eql 22 (.slice a n c) (.slice none n' c')).run Try.prog w = .ok (.bool a.isNone) w := fun w a n c n' c' => Lib.run_eql_slice_nil w _ _ a n c n' c' Try.underlying22
  cases a with
  | none =>
    obtain ⟨rfl, rfl⟩ := h.none0
    have hx : xs = [] := List.eq_nil_of_length_eq_zero (by simpa using h.len)
    subst hx
    clear h h1
    go_enter Try.func25, Try.ntmps25
    go_wp2
    go_ret
    exact ⟨none, 0, rfl, Row.nil _ _ _, Below.refl _ _⟩
  | some a =>
    have H := Lib.hid h; clear h
    have H1 := Lib.hid h1; clear h1
    go_enter Try.func25, Try.ntmps25
    go_wp2_with (at_builtin; go_must (refine wpList_append_row rfl _ _ 22 22 rfl 2 i0 (.int .i64 0) 1 8 Try.underlying22 hi hz0 hz1 hz2 rfl rfl (Row.empty w 2 1) n xs (Src.ofRd Try.underlying22 (H.out.alloc _) H1.out) (by unfold maxLen; omega) (by omega) (by simp) ?_); intro a' cap' w' hrow hgr _)
    go_ret
    rw [Nat.zero_add, List.nil_append] at hrow
    exact ⟨a', cap', by simp, hrow, ((Below.refl _ w).alloc (Nat.le_refl _) _).grown hgr (by simp) (fun k hk => by simp [blockOf] at hk; omega)⟩

set_option maxHeartbeats 400000 in
theorem clip (a : Option Addr) (n cap : Nat) (w : World) (hn : n ≤ cap) :
    Calls Try.prog 26 #[.slice a n cap] w fun e w' => e = .returned (.slice a n n) ∧ w = w' := by
  go_enter Try.func26, Try.ntmps26
  go_wp2
  go_ret
  exact ⟨rfl, rfl⟩


/-- P15.2 -/
def seenL (zs : List Int) (size : Int) (id : Int) : List Int :=
  if memB zs id = true then zs else (if (zs.length : Int) = size then zs.drop 1 else zs) ++ [id]

/-- what Seen hands back -/
def SeenPost (w : World) (zs : List Int) (size id : Int) (e : Ending) (w' : World) : Prop :=
  ∃ a cap, e = .returned (.tuple #[.agg #[.slice a (seenL zs size id).length cap], .bool (memB zs id)]) ∧ Row w.heap.size w' 1 a (seenL zs size id).length cap (I64 (seenL zs size id)) ∧ Below w.heap.size w w'


set_option maxHeartbeats 800000 in
theorem seen_known (zs : List Int) (size id : Int) (a : Option Addr) (n cap : Nat) (w : World) (hz : Ints w a n cap zs) (hn : n ≤ 1000000) (hk : memB zs id = true) :
    Calls Try.prog 10 #[.agg #[.slice a n cap], .int .i64 size, .int .i64 id] w (SeenPost w zs size id) := by
  have HZ := Lib.hid hz; clear hz
  have HK := Lib.hid hk; clear hk
  have hz0 : ((w.alloc (Obj.cells #[Value.slice a n cap] 24)).alloc (Obj.cells #[Value.slice none 0 0] 24)).cell? ⟨w.heap.size, 0, none⟩ = some (.slice a n cap) := by go_simp
  have hz1 : ((w.alloc (Obj.cells #[Value.slice a n cap] 24)).alloc (Obj.cells #[Value.slice none 0 0] 24)).cell? ⟨w.heap.size + 1, 0, none⟩ = some (.slice none 0 0) := by go_simp
  have hf1 : ((w.alloc (Obj.cells #[Value.slice a n cap] 24)).alloc (Obj.cells #[Value.slice none 0 0] 24)).frozen? ⟨w.heap.size + 1, 0, none⟩ = false := by go_simp
  go_enter Try.func10, Try.ntmps10
  go_wp2_with fail
  refine (clone a n cap (I64 zs) _ ((HZ.out.alloc _).alloc _) (I64_one _) (by omega)).mono ?_
  rintro e w1 ⟨a1, c1, rfl, hr1, hb1⟩
  have hc0 := cellAt hb1 hz0
  have hc1 := cellAt hb1 hz1
  have hd1 := freeAt hb1 hz1 hf1
  clear hz0 hz1 hf1
  have HR1 := Lib.hid hr1; clear hr1
  have HB1 := Lib.hid hb1; clear hb1
  go_wp2_with fail
  refine (knows zs id a n cap _ ((Rd.alloc (Rd.alloc HZ.out _) _).below HB1.out)).mono ?_
  rintro e w2 ⟨rfl, hb2⟩
  have hc2 := cellAt hb2 hc1
  have hd2 := freeAt hb2 hc1 hd1
  clear hc0 hc1 hd1
  have HB2 := Lib.hid hb2; clear hb2
  have hk := HK.out
  go_wp2
  have hc3 := World.cell?_setCell_same' w2 ⟨w.heap.size + 1, 0, none⟩ (.slice a1 n c1) (by rw [hc2]; rfl)
  refine bodyPost_ret (v := .tuple #[.agg #[.slice a1 n c1], .bool true]) (by simp [results, Try.f10, go_sem, hc3]) rfl ?_
  have hsl : seenL zs size id = zs := by unfold seenL; rw [if_pos HK.out]
  have hlen := HZ.out.len
  have hs2 := HB2.out.size
  have hs1 := HB1.out.size
  simp only [World.size_alloc] at hs1
  have hb : Below w.heap.size w (w2.setCell ⟨w.heap.size + 1, 0, none⟩ (.slice a1 n c1)) :=
    ((((Below.refl _ w).alloc (Nat.le_refl _) _).alloc (by simp) _).trans ((HB1.out.mono (by simp; omega)).trans (HB2.out.mono (by omega)))).setCell (by simp) _
  refine ⟨a1, c1, by rw [hsl, HK.out, hlen], ?_, hb⟩
  rw [hsl, hlen]
  exact ((HR1.out.below HB2.out).kept (grownBy_setCell' _ _ _) (.inl (fun e => by have := HR1.out.lt _ e; simp at this; omega))).mono (by simp; omega)

set_option maxHeartbeats 800000 in
theorem seen_room (zs : List Int) (size id : Int) (a : Option Addr) (n cap : Nat) (w : World) (hz : Ints w a n cap zs) (hn : n ≤ 1000000) (hk : memB zs id = false) (hfull : ¬ (zs.length : Int) = size) :
    Calls Try.prog 10 #[.agg #[.slice a n cap], .int .i64 size, .int .i64 id] w (SeenPost w zs size id) := by
  obtain ⟨i0, hi, hy0, hy1, hy2⟩ := info_parts Try.info2
  have HZ := Lib.hid hz; clear hz
  have HK := Lib.hid hk; clear hk
  have HF := Lib.hid hfull
  rw [HZ.out.len] at hfull
  have hfb : ((n : Int) == size) = false := by simpa using hfull
  clear hfull
  have hz0 : ((w.alloc (Obj.cells #[Value.slice a n cap] 24)).alloc (Obj.cells #[Value.slice none 0 0] 24)).cell? ⟨w.heap.size, 0, none⟩ = some (.slice a n cap) := by go_simp
  have hz1 : ((w.alloc (Obj.cells #[Value.slice a n cap] 24)).alloc (Obj.cells #[Value.slice none 0 0] 24)).cell? ⟨w.heap.size + 1, 0, none⟩ = some (.slice none 0 0) := by go_simp
  have hf1 : ((w.alloc (Obj.cells #[Value.slice a n cap] 24)).alloc (Obj.cells #[Value.slice none 0 0] 24)).frozen? ⟨w.heap.size + 1, 0, none⟩ = false := by go_simp
  go_enter Try.func10, Try.ntmps10
  go_wp2_with fail
  refine (clone a n cap (I64 zs) _ ((HZ.out.alloc _).alloc _) (I64_one _) (by omega)).mono ?_
  rintro e w1 ⟨a1, c1, rfl, hr1, hb1⟩
  have hc0 := cellAt hb1 hz0
  have hc1 := cellAt hb1 hz1
  have hd1 := freeAt hb1 hz1 hf1
  clear hz0 hz1 hf1
  have HR1 := Lib.hid hr1; clear hr1
  have HB1 := Lib.hid hb1; clear hb1
  go_wp2_with fail
  refine (knows zs id a n cap _ ((Rd.alloc (Rd.alloc HZ.out _) _).below HB1.out)).mono ?_
  rintro e w2 ⟨rfl, hb2⟩
  have hc2 := cellAt hb2 hc1
  have hd2 := freeAt hb2 hc1 hd1
  clear hc0 hc1 hd1
  have HB2 := Lib.hid hb2; clear hb2
  have hk := HK.out
  have hsz2 := HB2.out.size
  have hsz1 := HB1.out.size
  simp only [World.size_alloc] at hsz1
  have hneq : some (w.heap.size + 1) ≠ blockOf a1 := fun e => by have := HR1.out.lt _ e.symm; simp at this; omega
  have HNEQ := Lib.hid hneq; clear hneq
  go_wp2_with (first
    | (at_builtin; go_must (refine wpList_append_row rfl _ _ 22 22 rfl 2 i0 (.int .i64 0) 1 8 Try.underlying22 hi hy0 hy1 hy2 rfl rfl ((HR1.out.below HB2.out).alloc _) 1 _ (Src.one Try.underlying22 (.int .i64 id) 2 rfl) (by unfold maxLen; omega) (by omega) (by simp; omega) ?_; intro a3 c3 w3 hrow hgr _; have HROW := Lib.hid hrow; have HGR := Lib.hid hgr; have hc3 := cellGr hgr (cellNew _ hc2) HNEQ.out; have hd3 := freeGr hgr (cellNew _ hc2) (freeNew _ hc2 hd2) HNEQ.out; have hle := hrow.rd.le; clear hc2 hd2 hrow hgr))
    | (go_at_call 26; go_must (refine (clip _ _ _ _ (by omega)).mono ?_); rintro e w' ⟨rfl, rfl⟩))
  have hc4 := World.cell?_setCell_same' w3 ⟨w.heap.size + 1, 0, none⟩ (.slice a3 (n + 1) (n + 1)) (by rw [hc3]; rfl)
  refine bodyPost_ret (v := .tuple #[.agg #[.slice a3 (n + 1) (n + 1)], .bool false]) (by simp [results, Try.f10, go_sem, hc4]) rfl ?_
  have hsl : seenL zs size id = zs ++ [id] := by unfold seenL; rw [HK.out, if_neg (by simp), if_neg HF.out]
  have hlen := HZ.out.len
  have hb3 : Below w.heap.size w w3 :=
    (((((Below.refl _ w).alloc (Nat.le_refl _) _).alloc (by simp) _).trans ((HB1.out.mono (by simp; omega)).trans (HB2.out.mono (by omega)))).alloc (by omega) _).grown HGR.out (by simp; omega) (fun k hk => by have := HR1.out.lt _ hk; simp at this; omega)
  refine ⟨a3, n + 1, by rw [hsl, HK.out]; simp [hlen], ?_, hb3.setCell (by simp) _⟩
  rw [hsl, I64_append]
  have := HROW.out.take (k := n + 1) (c := n + 1) (Nat.le_refl _) (Nat.le_refl _) hle
  rw [List.take_of_length_le (by simp [I64_length, hlen])] at this
  simp only [List.length_append, hlen, List.length_singleton]
  exact (this.kept (grownBy_setCell' _ _ _) (.inl (fun e => by have := HROW.out.lt _ e; simp at this; omega))).mono (by simp; omega)

set_option maxHeartbeats 800000 in
theorem seen_full (zs : List Int) (size id : Int) (a : Option Addr) (n cap : Nat) (w : World) (hz : Ints w a n cap zs) (hn : n ≤ 1000000) (hk : memB zs id = false) (hfull : (zs.length : Int) = size) (hpos : 1 ≤ size) :
    Calls Try.prog 10 #[.agg #[.slice a n cap], .int .i64 size, .int .i64 id] w (SeenPost w zs size id) := by
  obtain ⟨i0, hi, hy0, hy1, hy2⟩ := info_parts Try.info2
  have HZ := Lib.hid hz; clear hz
  have HK := Lib.hid hk; clear hk
  have HF := Lib.hid hfull
  rw [HZ.out.len] at hfull
  have hfb : ((n : Int) == size) = true := by simpa using hfull
  have hn1 : 1 ≤ n := by omega
  clear hfull hpos
  have hz0 : ((w.alloc (Obj.cells #[Value.slice a n cap] 24)).alloc (Obj.cells #[Value.slice none 0 0] 24)).cell? ⟨w.heap.size, 0, none⟩ = some (.slice a n cap) := by go_simp
  have hz1 : ((w.alloc (Obj.cells #[Value.slice a n cap] 24)).alloc (Obj.cells #[Value.slice none 0 0] 24)).cell? ⟨w.heap.size + 1, 0, none⟩ = some (.slice none 0 0) := by go_simp
  have hf1 : ((w.alloc (Obj.cells #[Value.slice a n cap] 24)).alloc (Obj.cells #[Value.slice none 0 0] 24)).frozen? ⟨w.heap.size + 1, 0, none⟩ = false := by go_simp
  go_enter Try.func10, Try.ntmps10
  go_wp2_with fail
  refine (clone a n cap (I64 zs) _ ((HZ.out.alloc _).alloc _) (I64_one _) (by omega)).mono ?_
  rintro e w1 ⟨a1, c1, rfl, hr1, hb1⟩
  have hc0 := cellAt hb1 hz0
  have hc1 := cellAt hb1 hz1
  have hd1 := freeAt hb1 hz1 hf1
  clear hz0 hz1 hf1
  have HR1 := Lib.hid hr1; clear hr1
  have HB1 := Lib.hid hb1; clear hb1
  go_wp2_with fail
  refine (knows zs id a n cap _ ((Rd.alloc (Rd.alloc HZ.out _) _).below HB1.out)).mono ?_
  rintro e w2 ⟨rfl, hb2⟩
  have hc2 := cellAt hb2 hc1
  have hd2 := freeAt hb2 hc1 hd1
  clear hc0 hc1 hd1
  have HB2 := Lib.hid hb2; clear hb2
  have hk := HK.out
  have hsz2 := HB2.out.size
  have hsz1 := HB1.out.size
  simp only [World.size_alloc] at hsz1
  have hr2 := (HR1.out.below HB2.out).from (k := 1) (by omega)
  have HR2 := Lib.hid hr2; clear hr2
  have hsl : ∀ w, (Instr.slice 22 (.slice a1 n c1) (some (.int .i64 1)) none none).run Try.prog w = .ok (.slice (slAt a1 1 c1 1) (n - 1) (c1 - 1)) w := fun w => run_slice_from (P := Try.prog) 22 2 Try.underlying22 hi hy1 a1 n c1 1 (by omega) w
  have hneq : some (w.heap.size + 1) ≠ blockOf (slAt a1 1 c1 1) := fun e => by rw [blockOf_slAt] at e; have := HR1.out.lt _ e.symm; simp at this; omega
  have HNEQ := Lib.hid hneq; clear hneq
  go_wp2_with (first
    | (at_builtin; go_must (refine wpList_append_row rfl _ _ 22 22 rfl 2 i0 (.int .i64 0) 1 8 Try.underlying22 hi hy0 hy1 hy2 rfl rfl (HR2.out.alloc _) 1 _ (Src.one Try.underlying22 (.int .i64 id) 2 rfl) (by unfold maxLen; omega) (by omega) (by simp; omega) ?_; intro a3 c3 w3 hrow hgr _; rw [show n - 1 + 1 = n by omega] at hrow; have HROW := Lib.hid hrow; have HGR := Lib.hid hgr; have hc3 := cellGr hgr (cellNew _ hc2) HNEQ.out; have hd3 := freeGr hgr (cellNew _ hc2) (freeNew _ hc2 hd2) HNEQ.out; have hle := hrow.rd.le; clear hc2 hd2 hrow hgr))
    | (go_at_call 26; go_must (refine (clip _ _ _ _ (by omega)).mono ?_); rintro e w' ⟨rfl, rfl⟩))
  have hc4 := World.cell?_setCell_same' w3 ⟨w.heap.size + 1, 0, none⟩ (.slice a3 n n) (by rw [hc3]; rfl)
  refine bodyPost_ret (v := .tuple #[.agg #[.slice a3 n n], .bool false]) (by simp [results, Try.f10, go_sem, hc4]) rfl ?_
  have hsl : seenL zs size id = zs.drop 1 ++ [id] := by unfold seenL; rw [HK.out, if_neg (by simp), if_pos HF.out]
  have hlen := HZ.out.len
  have hb3 : Below w.heap.size w w3 :=
    (((((Below.refl _ w).alloc (Nat.le_refl _) _).alloc (by simp) _).trans ((HB1.out.mono (by simp; omega)).trans (HB2.out.mono (by omega)))).alloc (by omega) _).grown HGR.out (by simp; omega) (fun k hk => by have := HR2.out.lt _ hk; simp at this; omega)
  have hlen2 : (zs.drop 1 ++ [id]).length = n := by simp [hlen]; omega
  refine ⟨a3, n, by rw [hsl, HK.out, hlen2], ?_, hb3.setCell (by simp) _⟩
  rw [hsl, hlen2, I64_append, ← I64_drop]
  have := HROW.out.take (k := n) (c := n) (Nat.le_refl _) (Nat.le_refl _) hle
  rw [List.take_of_length_le (by rw [HROW.out.1]; exact Nat.le_refl _)] at this
  exact (this.kept (grownBy_setCell' _ _ _) (.inl (fun e => by have := HROW.out.lt _ e; simp at this; omega))).mono (by simp; omega)

theorem seen (zs : List Int) (size id : Int) (a : Option Addr) (n cap : Nat) (w : World) (hz : Ints w a n cap zs) (hn : n ≤ 1000000) (hpos : 1 ≤ size) :
    Calls Try.prog 10 #[.agg #[.slice a n cap], .int .i64 size, .int .i64 id] w (SeenPost w zs size id) := by
  cases hk : memB zs id with
  | true => exact seen_known zs size id a n cap w hz hn hk
  | false =>
    by_cases hf : (zs.length : Int) = size
    · exact seen_full zs size id a n cap w hz hn hk hf hpos
    · exact seen_room zs size id a n cap w hz hn hk hf

end Go.Proofs.Ytoninfccmonaiaa
