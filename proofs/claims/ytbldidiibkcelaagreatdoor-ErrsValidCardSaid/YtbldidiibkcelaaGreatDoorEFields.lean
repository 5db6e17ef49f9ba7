/-
  fields (walk): what a kind of error has. Not a statement of the seat.
-/
import Derived.Test.YtbldidiibkcelaaGreatDoorEMem
import Derived.Test.YtbldidiibkcelaaGreatDoorValidW
import Derived.Deep.CutBlock
namespace Go.Proofs.YtbldidiibkcelaaGreatDoor
open Go.RowKit

/-- what a kind has -/
structure Fl where
  id : Bool
  code : Bool
  text : Bool
  body : Bool
  codes : Bool
  least : Int
  most : Int
def fldM (k : Int) : Fl :=
  if k = 0 then ⟨false, false, false, false, false, 0, 0⟩ else
  if k = 7 then ⟨false, false, false, false, false, 0, 0⟩ else
  if k = 1 then ⟨false, true, true, false, false, 0, 0⟩ else
  if k = 10 then ⟨false, true, true, false, false, 0, 0⟩ else
  if k = 2 then ⟨true, false, true, false, false, 0, 0⟩ else
  if k = 3 then ⟨true, false, true, false, false, 1, 1⟩ else
  if k = 4 then ⟨true, false, false, false, false, 0, 4096⟩ else
  if k = 5 then ⟨false, false, false, true, false, 0, 0⟩ else
  if k = 6 then ⟨false, false, false, false, true, 0, 0⟩ else
  if k = 8 then ⟨true, false, true, false, true, 0, 1⟩ else
  if k = 9 then ⟨true, true, true, false, false, 0, 0⟩ else
  ⟨false, false, false, false, false, 0, 0⟩
def fldOk (k : Int) : Bool := decide (0 ≤ k ∧ k ≤ 10)
def vFl (f : Fl) : Value := .agg #[.bool f.id, .bool f.code, .bool f.text, .bool f.body, .bool f.codes, .int .i64 f.least, .int .i64 f.most]
def cFl (f : Fl) : List Value := [.bool f.id, .bool f.code, .bool f.text, .bool f.body, .bool f.codes, .int .i64 f.least, .int .i64 f.most]
/-- the world behind the result's box -/
def fbox (w : World) : World := w.alloc (.cells #[.bool false, .bool false, .bool false, .bool false, .bool false, .int .i64 0, .int .i64 0] 180)
/-- a struct of seven fields is stored -/
def st7 (w : World) (b : Nat) (v0 v1 v2 v3 v4 v5 v6 : Value) : World :=
  ((((((w.setCell ⟨b, 0, none⟩ v0).setCell ⟨b, 1, none⟩ v1).setCell ⟨b, 2, none⟩ v2).setCell ⟨b, 3, none⟩ v3).setCell ⟨b, 4, none⟩ v4).setCell ⟨b, 5, none⟩ v5).setCell ⟨b, 6, none⟩ v6
theorem st7_blk {w : World} {b : Nat} {u0 u1 u2 u3 u4 u5 u6 : Value} (h : Blk w b [u0, u1, u2, u3, u4, u5, u6]) (v0 v1 v2 v3 v4 v5 v6 : Value) : Blk (st7 w b v0 v1 v2 v3 v4 v5 v6) b [v0, v1, v2, v3, v4, v5, v6] := by
  have := ((((((h.set (j := 0) v0).set (j := 1) v1).set (j := 2) v2).set (j := 3) v3).set (j := 4) v4).set (j := 5) v5).set (j := 6) v6
  simpa [st7] using this
theorem st7_kept {w : World} {b : Nat} (v0 v1 v2 v3 v4 v5 v6 : Value) : Kept (N1 b) w (st7 w b v0 v1 v2 v3 v4 v5 v6) :=
  (((((((Kept.refl (N1 b) w).put (p := ⟨b, 0, none⟩) v0 (fun _ => rfl)).put (p := ⟨b, 1, none⟩) v1 (fun _ => rfl)).put (p := ⟨b, 2, none⟩) v2 (fun _ => rfl)).put (p := ⟨b, 3, none⟩) v3 (fun _ => rfl)).put (p := ⟨b, 4, none⟩) v4 (fun _ => rfl)).put (p := ⟨b, 5, none⟩) v5 (fun _ => rfl)).put (p := ⟨b, 6, none⟩) v6 (fun _ => rfl)
theorem fl_res {tmps : Array Value} {w : World} {db : Nat} {v0 v1 v2 v3 v4 v5 v6 u : Value} (ht : tmps.getD 2 undef = .pointer (some ⟨db, 0, none⟩)) (hu : tmps.getD 3 undef = u) (h : Blk w db [v0, v1, v2, v3, v4, v5, v6]) :
    (results Tryz.f104 tmps).run Tryz.prog w = .ok (.tuple #[.agg #[v0, v1, v2, v3, v4, v5, v6], u]) w := by
  have c0 := h.cell 0 rfl
  have c1 := h.cell 1 rfl
  have c2 := h.cell 2 rfl
  have c3 := h.cell 3 rfl
  have c4 := h.cell 4 rfl
  have c5 := h.cell 5 rfl
  have c6 := h.cell 6 rfl
  have ht' : tmps[2]?.getD undef = .pointer (some ⟨db, 0, none⟩) := by simpa using ht
  have hu' : tmps[3]?.getD undef = u := by simpa using hu
  simp [results, Tryz.results104, go_sem, ht', hu', c0, c1, c2, c3, c4, c5, c6]
theorem fl_fin {tmps : Array Value} {w w1 : World} {k : Int} {u0 u1 u2 u3 u4 u5 u6 v0 v1 v2 v3 v4 v5 v6 u : Value} (ht : tmps.getD 2 undef = .pointer (some ⟨w.heap.size, 0, none⟩)) (hu : tmps.getD 3 undef = u) (hB : Below w.heap.size w w1) (h : Blk w1 w.heap.size [u0, u1, u2, u3, u4, u5, u6])
    (hf : [v0, v1, v2, v3, v4, v5, v6] = cFl (fldM k)) (hk : u = .bool (fldOk k)) :
    bodyPost Tryz.prog Tryz.f104 (fun e w' => e = .returned (.tuple #[vFl (fldM k), .bool (fldOk k)]) ∧ Below w.heap.size w w') Exit.ret { tmps := tmps, defers := [] } (st7 w1 w.heap.size v0 v1 v2 v3 v4 v5 v6) := by
  refine bodyPost_ret (fl_res ht hu (st7_blk h v0 v1 v2 v3 v4 v5 v6)) rfl ⟨?_, ?_⟩
  · rw [hk]
    simp only [cFl, List.cons.injEq, and_true] at hf
    obtain ⟨rfl, rfl, rfl, rfl, rfl, rfl, rfl⟩ := hf
    rfl
  · exact ((Kept.of' (N := N1 w.heap.size) hB).trans (st7_kept _ _ _ _ _ _ _)).below (Nat.le_refl _) (fun x hx e => by unfold N1 at e; omega)

set_option maxRecDepth 100000 in
set_option maxHeartbeats 4000000 in
theorem fieldsN (k : Int) (w : World) : Calls Tryz.prog 104 #[.int .i64 k] w (fun e w' => e = .returned (.tuple #[vFl (fldM k), .bool (fldOk k)]) ∧ Below w.heap.size w w') := by
  have hW := Blk.new w #[.bool false, .bool false, .bool false, .bool false, .bool false, .int .i64 0, .int .i64 0] 180
  have hB : Below w.heap.size w (fbox w) := (Below.refl _ _).alloc (Nat.le_refl _) _
  go_enter Tryz.func104, Tryz.ntmps104
  go_upto_region 1 with (fail)
  change Code.wp _ _ _ _ (fbox w)
  change Blk (fbox w) _ _ at hW
  generalize fbox w = w1 at *
  have HB := Lib.hid hB
  have HW := Lib.hid hW
  have c0 := hW.cell 0 rfl; have c1 := hW.cell 1 rfl; have c2 := hW.cell 2 rfl; have c3 := hW.cell 3 rfl; have c4 := hW.cell 4 rfl; have c5 := hW.cell 5 rfl; have c6 := hW.cell 6 rfl
  have f0 := hW.free 0 (by simp); have f1 := hW.free 1 (by simp); have f2 := hW.free 2 (by simp); have f3 := hW.free 3 (by simp); have f4 := hW.free 4 (by simp); have f5 := hW.free 5 (by simp); have f6 := hW.free 6 (by simp)
  clear hB hW
  by_cases h0 : k = 0
  · subst h0
    go_wp2_with fail
    exact fl_fin rfl rfl HB.out HW.out rfl rfl
  by_cases h7 : k = 7
  · subst h7
    go_wp2_with fail
    exact fl_fin rfl rfl HB.out HW.out rfl rfl
  by_cases h1 : k = 1
  · subst h1
    go_wp2_with fail
    exact fl_fin rfl rfl HB.out HW.out rfl rfl
  by_cases h10 : k = 10
  · subst h10
    go_wp2_with fail
    exact fl_fin rfl rfl HB.out HW.out rfl rfl
  by_cases h2 : k = 2
  · subst h2
    go_wp2_with fail
    exact fl_fin rfl rfl HB.out HW.out rfl rfl
  by_cases h3 : k = 3
  · subst h3
    go_wp2_with fail
    exact fl_fin rfl rfl HB.out HW.out rfl rfl
  by_cases h4 : k = 4
  · subst h4
    go_wp2_with fail
    exact fl_fin rfl rfl HB.out HW.out rfl rfl
  by_cases h5 : k = 5
  · subst h5
    go_wp2_with fail
    exact fl_fin rfl rfl HB.out HW.out rfl rfl
  by_cases h6 : k = 6
  · subst h6
    go_wp2_with fail
    exact fl_fin rfl rfl HB.out HW.out rfl rfl
  by_cases h8 : k = 8
  · subst h8
    go_wp2_with fail
    exact fl_fin rfl rfl HB.out HW.out rfl rfl
  by_cases h9 : k = 9
  · subst h9
    go_wp2_with fail
    exact fl_fin rfl rfl HB.out HW.out rfl rfl
  have HF := Lib.hid (show fldM k = ⟨false, false, false, false, false, 0, 0⟩ by unfold fldM; simp [h0, h7, h1, h10, h2, h3, h4, h5, h6, h8, h9])
  have HK := Lib.hid (show fldOk k = false by unfold fldOk; simp only [decide_eq_false_iff_not]; omega)
  have e0 : (k == 0) = false := by simpa using h0
  have e7 : (k == 7) = false := by simpa using h7
  have e1 : (k == 1) = false := by simpa using h1
  have e10 : (k == 10) = false := by simpa using h10
  have e2 : (k == 2) = false := by simpa using h2
  have e3 : (k == 3) = false := by simpa using h3
  have e4 : (k == 4) = false := by simpa using h4
  have e5 : (k == 5) = false := by simpa using h5
  have e6 : (k == 6) = false := by simpa using h6
  have e8 : (k == 8) = false := by simpa using h8
  have e9 : (k == 9) = false := by simpa using h9
  clear h0 h7 h1 h10 h2 h3 h4 h5 h6 h8 h9
  go_wp2_with fail
  exact fl_fin rfl rfl HB.out HW.out (by rw [HF.out]; rfl) (by rw [HK.out]; rfl)
end Go.Proofs.YtbldidiibkcelaaGreatDoor
