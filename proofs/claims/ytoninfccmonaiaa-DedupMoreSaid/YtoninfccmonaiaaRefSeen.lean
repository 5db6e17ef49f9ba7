/-
  The walk of the document's Seen. Not a statement of the seat.
-/
import Derived.Test.YtoninfccmonaiaaFit
namespace Go.Proofs.Ytoninfccmonaiaa
open Go.RowKit

/-- what the document's own Seen hands back -/
def refL (zs : List Int) (size : Int) (id : Int) : List Int :=
  if memB zs id = true then zs else if size < (zs.length : Int) + 1 then (zs ++ [id]).drop 1 else zs ++ [id]
theorem refL_eq {zs : List Int} {size id : Int} (h1 : 1 ≤ size) (h2 : (zs.length : Int) ≤ size) : refL zs size id = seenL zs size id := by
  unfold refL seenL
  by_cases h : memB zs id = true
  · rw [if_pos h, if_pos h]
  · rw [if_neg h, if_neg h]
    by_cases e : (zs.length : Int) = size
    · rw [if_pos (by omega), if_pos e]
      cases zs with
      | nil => simp at e; omega
      | cons z r => simp
    · rw [if_neg (by omega), if_neg e]

def Out (w : World) (L : List Int) (b : Bool) (e : Ending) (w' : World) : Prop :=
  ∃ a cap, e = .returned (.tuple #[.agg #[.slice a L.length cap], .bool b]) ∧ Row w.heap.size w' 1 a L.length cap (I64 L) ∧ Below w.heap.size w w'

theorem Out.mk {w : World} {L : List Int} {b : Bool} {e : Ending} {w' : World} {a : Option Addr} {n cap : Nat} (hn : L.length = n) (he : e = .returned (.tuple #[.agg #[.slice a n cap], .bool b])) (hr : Row w.heap.size w' 1 a n cap (I64 L)) (hb : Below w.heap.size w w') : Out w L b e w' := by
  subst hn
  exact ⟨a, cap, he, hr, hb⟩

/-- the three boxes of the document's Seen -/
def refW (w : World) (a : Option Addr) (n cap : Nat) : World :=
  ((w.alloc (Obj.cells #[Value.slice a n cap] 24)).alloc (Obj.cells #[Value.slice none 0 0] 24)).alloc (Obj.cells #[Value.slice none 0 0] 24)
theorem refW_size (w : World) (a : Option Addr) (n cap : Nat) : (refW w a n cap).heap.size = w.heap.size + 3 := by simp [refW]
theorem refW_below (w : World) (a : Option Addr) (n cap : Nat) : Below w.heap.size w (refW w a n cap) := (((Below.refl _ w).alloc (Nat.le_refl _) _).alloc (by simp) _).alloc (by simp; omega) _


/-- the three boxes: the state, the result, 'out' (which holds v) -/
structure RefBox (w : World) (a : Option Addr) (n cap : Nat) (v : Value) (W : World) : Prop where
  st : W.cell? ⟨w.heap.size, 0, none⟩ = some (.slice a n cap)
  res : W.cell? ⟨w.heap.size + 1, 0, none⟩ = some (.slice none 0 0)
  resF : W.frozen? ⟨w.heap.size + 1, 0, none⟩ = false
  out : W.cell? ⟨w.heap.size + 1 + 1, 0, none⟩ = some v
  outF : W.frozen? ⟨w.heap.size + 1 + 1, 0, none⟩ = false
  below : Below w.heap.size w W
  size : w.heap.size + 3 ≤ W.heap.size

section
variable {w : World} {a : Option Addr} {n cap : Nat} {v : Value} {W W' : World}

theorem RefBox.new (w : World) (a : Option Addr) (n cap : Nat) :
    RefBox w a n cap (.slice none 0 0) (((w.alloc (Obj.cells #[Value.slice a n cap] 24)).alloc (Obj.cells #[Value.slice none 0 0] 24)).alloc (Obj.cells #[Value.slice none 0 0] 24)) :=
  ⟨by go_simp, by go_simp, by go_simp, by go_simp, by go_simp, (((Below.refl _ w).alloc (Nat.le_refl _) _).alloc (by simp) _).alloc (by simp; omega) _, by simp⟩

theorem RefBox.later (h : RefBox w a n cap v W) (hb : Below W.heap.size W W') : RefBox w a n cap v W' :=
  ⟨cellAt hb h.st, cellAt hb h.res, freeAt hb h.res h.resF, cellAt hb h.out, freeAt hb h.out h.outF, h.below.trans (hb.mono h.below.size), Nat.le_trans h.size hb.size⟩

theorem RefBox.gr {row : Option Nat} (h : RefBox w a n cap v W) (hg : W.grownBy W' row) (hr : ∀ k, row = some k → w.heap.size + 3 ≤ k) : RefBox w a n cap v W' := by
  have hne : ∀ k, k < w.heap.size + 3 → some k ≠ row := fun k hk e => by have := hr _ e.symm; omega
  exact ⟨cellGr hg h.st (hne _ (by omega)), cellGr hg h.res (hne _ (by omega)), freeGr hg h.res h.resF (hne _ (by omega)), cellGr hg h.out (hne _ (by omega)), freeGr hg h.out h.outF (hne _ (by omega)),
    h.below.grown hg (by have := h.size; omega) (fun k hk => by have := hr _ hk; omega), Nat.le_trans h.size hg.size⟩

theorem RefBox.put (h : RefBox w a n cap v W) (u : Value) : RefBox w a n cap u (W.setCell ⟨w.heap.size + 1 + 1, 0, none⟩ u) := by
  refine ⟨?_, ?_, ?_, World.cell?_setCell_same' _ _ _ (by rw [h.out]; rfl), ?_, ?_, ?_⟩
  · rw [World.cell?_setCell_other _ _ _ _ (by simp)]; exact h.st
  · rw [World.cell?_setCell_other _ _ _ _ (by simp)]; exact h.res
  · rw [World.frozen?_setCell]; exact h.resF
  · rw [World.frozen?_setCell]; exact h.outF
  · exact h.below.setCell (by simp; omega) _
  · have := h.size; simp [World.setCell]; omega

end

set_option maxHeartbeats 1000000 in
theorem refSeen_known (zs : List Int) (size id : Int) (a : Option Addr) (n cap : Nat) (w : World) (hz : Ints w a n cap zs) (hn : n ≤ 1000000) (hk : memB zs id = true) :
    Calls Try.prog 11 #[.agg #[.slice a n cap], .int .i64 size, .int .i64 id] w (Out w (refL zs size id) (memB zs id)) := by
  obtain ⟨i0, hi, hy0, hy1, hy2⟩ := info_parts Try.info2
  have HZ := Lib.hid hz; clear hz
  have HK := Lib.hid hk; clear hk
  have HN := Lib.hid (RefBox.new w a n cap)
  go_enter Try.func11, Try.ntmps11
  go_wp2_with (first
    | (at_builtin; go_must (refine wpList_append_row rfl _ _ 22 22 rfl 2 i0 (.int .i64 0) 1 8 Try.underlying22 hi hy0 hy1 hy2 rfl rfl (Row.nil (w.heap.size + 3) _ 1) n (I64 zs) (Src.ofRd Try.underlying22 (((HZ.out.alloc _).alloc _).alloc _) (I64_one _)) (by unfold maxLen; omega) (by omega) (by simp) ?_; intro a1 c1 w1 hrow hgr _; rw [Nat.zero_add, List.nil_append] at hrow; have HR := Lib.hid hrow; have hbx := HN.out.gr hgr (fun k hk => by cases hk); have HB := Lib.hid hbx; obtain ⟨s0, s1, s2, s3, s4, s5, s6⟩ := hbx; clear hrow hgr s5 s6)))
  have hA := HB.out.put (.slice a1 n c1)
  have hR := HR.out.put (p := ⟨w.heap.size + 1 + 1, 0, none⟩) (show _ < _ from by first | (simp; done) | (simp; omega)) (.slice a1 n c1)
  clear s0 s1 s2 s3 s4
  generalize hW2 : w1.setCell { block := w.heap.size + 1 + 1, off := 0 } (Value.slice a1 n c1) = W2 at hA hR ⊢
  clear hW2
  refine (refKnows zs id a n cap _ (HZ.out.below ((hA.below).mono (Nat.le_refl _)))).mono ?_
  rintro e w3 ⟨rfl, hb3⟩
  have hA3 := hA.later hb3
  have hR3 := hR.below hb3
  clear hA hR hb3
  have HA := Lib.hid hA3
  have HR3 := Lib.hid hR3; clear hR3
  obtain ⟨s0, s1, s2, s3, s4, _, _⟩ := hA3
  have hk := HK.out
  go_wp2
  have hc4 := World.cell?_setCell_same' w3 ⟨w.heap.size + 1, 0, none⟩ (.slice a1 n c1) (by rw [s1]; rfl)
  refine bodyPost_ret (v := .tuple #[.agg #[.slice a1 n c1], .bool true]) (by simp [results, Try.f11, go_sem, hc4]) rfl ?_
  have hsl : refL zs size id = zs := by unfold refL; rw [if_pos HK.out]
  rw [hsl, HK.out]
  exact Out.mk HZ.out.len rfl ((HR3.out.put (p := ⟨w.heap.size + 1, 0, none⟩) (show _ < _ from by first | (simp; done) | (simp; omega)) _).mono (by omega)) (HA.out.below.setCell (by simp) _)

set_option maxHeartbeats 1000000 in
theorem refSeen_new (zs : List Int) (size id : Int) (a : Option Addr) (n cap : Nat) (w : World) (hz : Ints w a n cap zs) (hn : n ≤ 1000000) (hk : memB zs id = false) :
    Calls Try.prog 11 #[.agg #[.slice a n cap], .int .i64 size, .int .i64 id] w (Out w (refL zs size id) (memB zs id)) := by
  obtain ⟨i0, hi, hy0, hy1, hy2⟩ := info_parts Try.info2
  have HZ := Lib.hid hz; clear hz
  have HK := Lib.hid hk; clear hk
  have HN := Lib.hid (RefBox.new w a n cap)
  go_enter Try.func11, Try.ntmps11
  go_wp2_with (first
    | (at_builtin; go_must (refine wpList_append_row rfl _ _ 22 22 rfl 2 i0 (.int .i64 0) 1 8 Try.underlying22 hi hy0 hy1 hy2 rfl rfl (Row.nil (w.heap.size + 3) _ 1) n (I64 zs) (Src.ofRd Try.underlying22 (((HZ.out.alloc _).alloc _).alloc _) (I64_one _)) (by unfold maxLen; omega) (by omega) (by simp) ?_; intro a1 c1 w1 hrow hgr _; rw [Nat.zero_add, List.nil_append] at hrow; have HR := Lib.hid hrow; have hbx := HN.out.gr hgr (fun k hk => by cases hk); have HB := Lib.hid hbx; obtain ⟨s0, s1, s2, s3, s4, s5, s6⟩ := hbx; clear hrow hgr s5 s6)))
  have hA := HB.out.put (.slice a1 n c1)
  have hR := HR.out.put (p := ⟨w.heap.size + 1 + 1, 0, none⟩) (show _ < _ from by first | (simp; done) | (simp; omega)) (.slice a1 n c1)
  clear s0 s1 s2 s3 s4
  generalize hW2 : w1.setCell { block := w.heap.size + 1 + 1, off := 0 } (Value.slice a1 n c1) = W2 at hA hR ⊢
  clear hW2
  refine (refKnows zs id a n cap _ (HZ.out.below ((hA.below).mono (Nat.le_refl _)))).mono ?_
  rintro e w3 ⟨rfl, hb3⟩
  have hA3 := hA.later hb3
  have hR3 := hR.below hb3
  clear hA hR hb3
  have HA := Lib.hid hA3
  have HR3 := Lib.hid hR3; clear hR3
  obtain ⟨s0, s1, s2, s3, s4, _, hsz3⟩ := hA3
  have hk := HK.out
  by_cases hgt : size < (n : Int) + 1
  all_goals
    go_wp2_with (first
      | (at_builtin; go_must (refine wpList_append_row rfl _ _ 22 22 rfl 2 i0 (.int .i64 0) 1 8 Try.underlying22 hi hy0 hy1 hy2 rfl rfl (HR3.out.alloc _) 1 _ (Src.one Try.underlying22 (.int .i64 id) 2 rfl) (by unfold maxLen; omega) (by omega) (by simp; omega) ?_; intro a4 c4 w4 hrow hgr _; have hgg := (HA.out.later ((Below.refl _ _).alloc (Nat.le_refl _) _)).gr hgr (fun k hk => (HR3.out.lt _ hk).1); have HG4 := Lib.hid hgg; have HR4 := Lib.hid hrow; clear s0 s1 s2 s3 s4; obtain ⟨s0, s1, s2, s3, s4, _, _⟩ := hgg; have hsl : ∀ w, (Instr.slice 22 (.slice a4 (n + 1) c4) (some (.int .i64 1)) none none).run Try.prog w = .ok (.slice (slAt a4 1 c4 1) (n + 1 - 1) (c4 - 1)) w := fun w => run_slice_from (P := Try.prog) 22 2 Try.underlying22 hi hy1 a4 (n + 1) c4 1 (by omega) w; clear hrow hgr)))
  · have hrn := (HR4.out.from (k := 1) (by omega))
    have hA5 := (HG4.out.put (.slice a4 (n + 1) c4)).put (.slice (slAt a4 1 c4 1) n (c4 - 1))
    have hR5 := (hrn.put (p := ⟨w.heap.size + 1 + 1, 0, none⟩) (show _ < _ from by first | (simp; done) | (simp; omega)) (.slice a4 (n + 1) c4)).put (p := ⟨w.heap.size + 1 + 1, 0, none⟩) (show _ < _ from by first | (simp; done) | (simp; omega)) (.slice (slAt a4 1 c4 1) n (c4 - 1))
    have hc4 := World.cell?_setCell_same' _ ⟨w.heap.size + 1, 0, none⟩ (.slice (slAt a4 1 c4 1) n (c4 - 1)) (by rw [hA5.res]; rfl)
    refine bodyPost_ret (v := .tuple #[.agg #[.slice (slAt a4 1 c4 1) n (c4 - 1)], .bool false]) (by simp [results, Try.f11, go_sem, hc4]) rfl ?_
    have hlen := HZ.out.len
    have hL : refL zs size id = (zs ++ [id]).drop 1 := by unfold refL; rw [HK.out, if_neg (by simp), if_pos (by omega)]
    rw [hL, HK.out]
    refine Out.mk (n := n) (by simp [hlen]) rfl ?_ (hA5.below.setCell (by simp) _)
    have := (hR5.put (p := ⟨w.heap.size + 1, 0, none⟩) (show _ < _ from by first | (simp; done) | (simp; omega)) (.slice (slAt a4 1 c4 1) n (c4 - 1))).mono (B' := w.heap.size) (by omega)
    rw [← I64_drop, I64_append]
    exact this
  · have hA5 := HG4.out.put (.slice a4 (n + 1) c4)
    have hR5 := HR4.out.put (p := ⟨w.heap.size + 1 + 1, 0, none⟩) (show _ < _ from by first | (simp; done) | (simp; omega)) (.slice a4 (n + 1) c4)
    have hc4 := World.cell?_setCell_same' _ ⟨w.heap.size + 1, 0, none⟩ (.slice a4 (n + 1) c4) (by rw [hA5.res]; rfl)
    refine bodyPost_ret (v := .tuple #[.agg #[.slice a4 (n + 1) c4], .bool false]) (by simp [results, Try.f11, go_sem, hc4]) rfl ?_
    have hlen := HZ.out.len
    have hL : refL zs size id = zs ++ [id] := by unfold refL; rw [HK.out, if_neg (by simp), if_neg (by omega)]
    rw [hL, HK.out]
    refine Out.mk (n := n + 1) (by simp [hlen]) rfl ?_ (hA5.below.setCell (by simp) _)
    have := (hR5.put (p := ⟨w.heap.size + 1, 0, none⟩) (show _ < _ from by first | (simp; done) | (simp; omega)) (.slice a4 (n + 1) c4)).mono (B' := w.heap.size) (by omega)
    rw [I64_append]
    exact this

theorem refSeen (zs : List Int) (size id : Int) (a : Option Addr) (n cap : Nat) (w : World) (hz : Ints w a n cap zs) (hn : n ≤ 1000000) :
    Calls Try.prog 11 #[.agg #[.slice a n cap], .int .i64 size, .int .i64 id] w (Out w (refL zs size id) (memB zs id)) := by
  cases hk : memB zs id with
  | true => have := refSeen_known zs size id a n cap w hz hn hk; rwa [hk] at this
  | false => have := refSeen_new zs size id a n cap w hz hn hk; rwa [hk] at this
end Go.Proofs.Ytoninfccmonaiaa
