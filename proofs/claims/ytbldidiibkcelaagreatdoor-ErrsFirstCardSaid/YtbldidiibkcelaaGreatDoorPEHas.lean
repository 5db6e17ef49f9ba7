/-
  ErrsValid: the document's Has, the code's can at each kind's dynamic type, Has (walks). Not a statement of the seat.
-/
import Derived.Test.YtbldidiibkcelaaGreatDoorPEFields
import Derived.Stop.Asserts
namespace Go.Proofs.YtbldidiibkcelaaGreatDoor
open Go.RowKit

/-- which kind has which interface -/
def hasK (k m : Int) : Bool :=
  if m = 0 then k == 10 else if m = 1 then k == 10 else if m = 2 then k == 1 || k == 10 else if m = 3 then k == 10
  else if m = 4 then k == 3 || k == 8 else if m = 5 then k == 4 else if m = 6 then k == 8 else if m = 7 then k == 9 else false
theorem kinds_cases (k : Int) : k = 1 ∨ k = 2 ∨ k = 3 ∨ k = 4 ∨ k = 5 ∨ k = 6 ∨ k = 7 ∨ k = 8 ∨ k = 9 ∨ k = 10 ∨ (k ≠ 1 ∧ k ≠ 2 ∧ k ≠ 3 ∧ k ≠ 4 ∧ k ≠ 5 ∧ k ≠ 6 ∧ k ≠ 7 ∧ k ≠ 8 ∧ k ≠ 9 ∧ k ≠ 10) := by omega
theorem face_cases (m : Int) : m = 0 ∨ m = 1 ∨ m = 2 ∨ m = 3 ∨ m = 4 ∨ m = 5 ∨ m = 6 ∨ m = 7 ∨ (m ≠ 0 ∧ m ≠ 1 ∧ m ≠ 2 ∧ m ≠ 3 ∧ m ≠ 4 ∧ m ≠ 5 ∧ m ≠ 6 ∧ m ≠ 7) := by omega
set_option maxRecDepth 100000 in
set_option maxHeartbeats 8000000 in
theorem rhasN (k m : Int) (w : World) : Calls Tryz.prog 20 #[.int .i64 k, .int .i64 m] w (fun e w' => e = .returned (.bool (hasK k m)) ∧ w' = w) := by
  go_enter Tryz.func20, Tryz.ntmps20
  rcases face_cases m with rfl | rfl | rfl | rfl | rfl | rfl | rfl | rfl | ⟨m0, m1, m2, m3, m4, m5, m6, m7⟩
  · rcases kinds_cases k with rfl | rfl | rfl | rfl | rfl | rfl | rfl | rfl | rfl | rfl | ⟨h1, h2, h3, h4, h5, h6, h7, h8, h9, h10⟩
    all_goals
      go_wp2_with fail
      go_ret
      exact ⟨by simp [hasK, *], rfl⟩
  · rcases kinds_cases k with rfl | rfl | rfl | rfl | rfl | rfl | rfl | rfl | rfl | rfl | ⟨h1, h2, h3, h4, h5, h6, h7, h8, h9, h10⟩
    all_goals
      go_wp2_with fail
      go_ret
      exact ⟨by simp [hasK, *], rfl⟩
  · rcases kinds_cases k with rfl | rfl | rfl | rfl | rfl | rfl | rfl | rfl | rfl | rfl | ⟨h1, h2, h3, h4, h5, h6, h7, h8, h9, h10⟩
    all_goals
      go_wp2_with fail
      go_ret
      exact ⟨by simp [hasK, *], rfl⟩
  · rcases kinds_cases k with rfl | rfl | rfl | rfl | rfl | rfl | rfl | rfl | rfl | rfl | ⟨h1, h2, h3, h4, h5, h6, h7, h8, h9, h10⟩
    all_goals
      go_wp2_with fail
      go_ret
      exact ⟨by simp [hasK, *], rfl⟩
  · rcases kinds_cases k with rfl | rfl | rfl | rfl | rfl | rfl | rfl | rfl | rfl | rfl | ⟨h1, h2, h3, h4, h5, h6, h7, h8, h9, h10⟩
    all_goals
      go_wp2_with fail
      go_ret
      exact ⟨by simp [hasK, *], rfl⟩
  · rcases kinds_cases k with rfl | rfl | rfl | rfl | rfl | rfl | rfl | rfl | rfl | rfl | ⟨h1, h2, h3, h4, h5, h6, h7, h8, h9, h10⟩
    all_goals
      go_wp2_with fail
      go_ret
      exact ⟨by simp [hasK, *], rfl⟩
  · rcases kinds_cases k with rfl | rfl | rfl | rfl | rfl | rfl | rfl | rfl | rfl | rfl | ⟨h1, h2, h3, h4, h5, h6, h7, h8, h9, h10⟩
    all_goals
      go_wp2_with fail
      go_ret
      exact ⟨by simp [hasK, *], rfl⟩
  · rcases kinds_cases k with rfl | rfl | rfl | rfl | rfl | rfl | rfl | rfl | rfl | rfl | ⟨h1, h2, h3, h4, h5, h6, h7, h8, h9, h10⟩
    all_goals
      go_wp2_with fail
      go_ret
      exact ⟨by simp [hasK, *], rfl⟩
  · go_wp2_with fail
    go_ret
    exact ⟨by simp [hasK, *], rfl⟩
theorem ta89_0 (v : Value) (w : World) : (Instr.typeAssert (.iface 89 v) 68 92 true).run Tryz.prog w = .ok (.tuple #[.nilIface, .bool false]) w := run_typeAssert_lacksB Tryz.underlying92 (by kernel_rfl) (by kernel_rfl) v 68 w
theorem ta89_1 (v : Value) (w : World) : (Instr.typeAssert (.iface 89 v) 68 134 true).run Tryz.prog w = .ok (.tuple #[.nilIface, .bool false]) w := run_typeAssert_lacksB Tryz.underlying134 (by kernel_rfl) (by kernel_rfl) v 68 w
theorem ta89_2 (v : Value) (w : World) : (Instr.typeAssert (.iface 89 v) 68 96 true).run Tryz.prog w = .ok (.tuple #[.nilIface, .bool false]) w := run_typeAssert_lacksB Tryz.underlying96 (by kernel_rfl) (by kernel_rfl) v 68 w
theorem ta89_3 (v : Value) (w : World) : (Instr.typeAssert (.iface 89 v) 68 138 true).run Tryz.prog w = .ok (.tuple #[.nilIface, .bool false]) w := run_typeAssert_lacksB Tryz.underlying138 (by kernel_rfl) (by kernel_rfl) v 68 w
theorem ta89_4 (v : Value) (w : World) : (Instr.typeAssert (.iface 89 v) 68 126 true).run Tryz.prog w = .ok (.tuple #[.nilIface, .bool false]) w := run_typeAssert_lacksB Tryz.underlying126 (by kernel_rfl) (by kernel_rfl) v 68 w
theorem ta89_5 (v : Value) (w : World) : (Instr.typeAssert (.iface 89 v) 68 129 true).run Tryz.prog w = .ok (.tuple #[.nilIface, .bool false]) w := run_typeAssert_lacksB Tryz.underlying129 (by kernel_rfl) (by kernel_rfl) v 68 w
theorem ta89_6 (v : Value) (w : World) : (Instr.typeAssert (.iface 89 v) 68 75 true).run Tryz.prog w = .ok (.tuple #[.nilIface, .bool false]) w := run_typeAssert_lacksB Tryz.underlying75 (by kernel_rfl) (by kernel_rfl) v 68 w
theorem ta89_7 (v : Value) (w : World) : (Instr.typeAssert (.iface 89 v) 68 143 true).run Tryz.prog w = .ok (.tuple #[.nilIface, .bool false]) w := run_typeAssert_lacksB Tryz.underlying143 (by kernel_rfl) (by kernel_rfl) v 68 w
set_option maxRecDepth 100000 in
theorem has89 (v : Value) (m : Int) (w : World) : Calls Tryz.prog 56 #[.iface 89 v, .int .i64 m] w (fun e w' => e = .returned (.bool (hasK 2 m)) ∧ w' = w) := by
  have a0 := ta89_0 v
  have a1 := ta89_1 v
  have a2 := ta89_2 v
  have a3 := ta89_3 v
  have a4 := ta89_4 v
  have a5 := ta89_5 v
  have a6 := ta89_6 v
  have a7 := ta89_7 v
  go_enter Tryz.func56, Tryz.ntmps56
  rcases face_cases m with rfl | rfl | rfl | rfl | rfl | rfl | rfl | rfl | ⟨m0, m1, m2, m3, m4, m5, m6, m7⟩
  all_goals
    go_wp2_with fail
    go_ret
    exact ⟨by simp [hasK, *], rfl⟩
theorem ta101_0 (v : Value) (w : World) : (Instr.typeAssert (.iface 101 v) 68 92 true).run Tryz.prog w = .ok (.tuple #[.nilIface, .bool false]) w := run_typeAssert_lacksB Tryz.underlying92 (by kernel_rfl) (by kernel_rfl) v 68 w
theorem ta101_1 (v : Value) (w : World) : (Instr.typeAssert (.iface 101 v) 68 134 true).run Tryz.prog w = .ok (.tuple #[.nilIface, .bool false]) w := run_typeAssert_lacksB Tryz.underlying134 (by kernel_rfl) (by kernel_rfl) v 68 w
theorem ta101_2 (v : Value) (w : World) : (Instr.typeAssert (.iface 101 v) 68 96 true).run Tryz.prog w = .ok (.tuple #[.iface 101 v, .bool true]) w := run_typeAssert_hasB Tryz.underlying96 (by kernel_rfl) v 68 w
theorem ta101_3 (v : Value) (w : World) : (Instr.typeAssert (.iface 101 v) 68 138 true).run Tryz.prog w = .ok (.tuple #[.nilIface, .bool false]) w := run_typeAssert_lacksB Tryz.underlying138 (by kernel_rfl) (by kernel_rfl) v 68 w
theorem ta101_4 (v : Value) (w : World) : (Instr.typeAssert (.iface 101 v) 68 126 true).run Tryz.prog w = .ok (.tuple #[.nilIface, .bool false]) w := run_typeAssert_lacksB Tryz.underlying126 (by kernel_rfl) (by kernel_rfl) v 68 w
theorem ta101_5 (v : Value) (w : World) : (Instr.typeAssert (.iface 101 v) 68 129 true).run Tryz.prog w = .ok (.tuple #[.nilIface, .bool false]) w := run_typeAssert_lacksB Tryz.underlying129 (by kernel_rfl) (by kernel_rfl) v 68 w
theorem ta101_6 (v : Value) (w : World) : (Instr.typeAssert (.iface 101 v) 68 75 true).run Tryz.prog w = .ok (.tuple #[.nilIface, .bool false]) w := run_typeAssert_lacksB Tryz.underlying75 (by kernel_rfl) (by kernel_rfl) v 68 w
theorem ta101_7 (v : Value) (w : World) : (Instr.typeAssert (.iface 101 v) 68 143 true).run Tryz.prog w = .ok (.tuple #[.nilIface, .bool false]) w := run_typeAssert_lacksB Tryz.underlying143 (by kernel_rfl) (by kernel_rfl) v 68 w
set_option maxRecDepth 100000 in
theorem has101 (v : Value) (m : Int) (w : World) : Calls Tryz.prog 56 #[.iface 101 v, .int .i64 m] w (fun e w' => e = .returned (.bool (hasK 1 m)) ∧ w' = w) := by
  have a0 := ta101_0 v
  have a1 := ta101_1 v
  have a2 := ta101_2 v
  have a3 := ta101_3 v
  have a4 := ta101_4 v
  have a5 := ta101_5 v
  have a6 := ta101_6 v
  have a7 := ta101_7 v
  go_enter Tryz.func56, Tryz.ntmps56
  rcases face_cases m with rfl | rfl | rfl | rfl | rfl | rfl | rfl | rfl | ⟨m0, m1, m2, m3, m4, m5, m6, m7⟩
  all_goals
    go_wp2_with fail
    go_ret
    exact ⟨by simp [hasK, *], rfl⟩
theorem ta102_0 (v : Value) (w : World) : (Instr.typeAssert (.iface 102 v) 68 92 true).run Tryz.prog w = .ok (.tuple #[.nilIface, .bool false]) w := run_typeAssert_lacksB Tryz.underlying92 (by kernel_rfl) (by kernel_rfl) v 68 w
theorem ta102_1 (v : Value) (w : World) : (Instr.typeAssert (.iface 102 v) 68 134 true).run Tryz.prog w = .ok (.tuple #[.nilIface, .bool false]) w := run_typeAssert_lacksB Tryz.underlying134 (by kernel_rfl) (by kernel_rfl) v 68 w
theorem ta102_2 (v : Value) (w : World) : (Instr.typeAssert (.iface 102 v) 68 96 true).run Tryz.prog w = .ok (.tuple #[.nilIface, .bool false]) w := run_typeAssert_lacksB Tryz.underlying96 (by kernel_rfl) (by kernel_rfl) v 68 w
theorem ta102_3 (v : Value) (w : World) : (Instr.typeAssert (.iface 102 v) 68 138 true).run Tryz.prog w = .ok (.tuple #[.nilIface, .bool false]) w := run_typeAssert_lacksB Tryz.underlying138 (by kernel_rfl) (by kernel_rfl) v 68 w
theorem ta102_4 (v : Value) (w : World) : (Instr.typeAssert (.iface 102 v) 68 126 true).run Tryz.prog w = .ok (.tuple #[.iface 102 v, .bool true]) w := run_typeAssert_hasB Tryz.underlying126 (by kernel_rfl) v 68 w
theorem ta102_5 (v : Value) (w : World) : (Instr.typeAssert (.iface 102 v) 68 129 true).run Tryz.prog w = .ok (.tuple #[.nilIface, .bool false]) w := run_typeAssert_lacksB Tryz.underlying129 (by kernel_rfl) (by kernel_rfl) v 68 w
theorem ta102_6 (v : Value) (w : World) : (Instr.typeAssert (.iface 102 v) 68 75 true).run Tryz.prog w = .ok (.tuple #[.nilIface, .bool false]) w := run_typeAssert_lacksB Tryz.underlying75 (by kernel_rfl) (by kernel_rfl) v 68 w
theorem ta102_7 (v : Value) (w : World) : (Instr.typeAssert (.iface 102 v) 68 143 true).run Tryz.prog w = .ok (.tuple #[.nilIface, .bool false]) w := run_typeAssert_lacksB Tryz.underlying143 (by kernel_rfl) (by kernel_rfl) v 68 w
set_option maxRecDepth 100000 in
theorem has102 (v : Value) (m : Int) (w : World) : Calls Tryz.prog 56 #[.iface 102 v, .int .i64 m] w (fun e w' => e = .returned (.bool (hasK 3 m)) ∧ w' = w) := by
  have a0 := ta102_0 v
  have a1 := ta102_1 v
  have a2 := ta102_2 v
  have a3 := ta102_3 v
  have a4 := ta102_4 v
  have a5 := ta102_5 v
  have a6 := ta102_6 v
  have a7 := ta102_7 v
  go_enter Tryz.func56, Tryz.ntmps56
  rcases face_cases m with rfl | rfl | rfl | rfl | rfl | rfl | rfl | rfl | ⟨m0, m1, m2, m3, m4, m5, m6, m7⟩
  all_goals
    go_wp2_with fail
    go_ret
    exact ⟨by simp [hasK, *], rfl⟩
theorem ta103_0 (v : Value) (w : World) : (Instr.typeAssert (.iface 103 v) 68 92 true).run Tryz.prog w = .ok (.tuple #[.nilIface, .bool false]) w := run_typeAssert_lacksB Tryz.underlying92 (by kernel_rfl) (by kernel_rfl) v 68 w
theorem ta103_1 (v : Value) (w : World) : (Instr.typeAssert (.iface 103 v) 68 134 true).run Tryz.prog w = .ok (.tuple #[.nilIface, .bool false]) w := run_typeAssert_lacksB Tryz.underlying134 (by kernel_rfl) (by kernel_rfl) v 68 w
theorem ta103_2 (v : Value) (w : World) : (Instr.typeAssert (.iface 103 v) 68 96 true).run Tryz.prog w = .ok (.tuple #[.nilIface, .bool false]) w := run_typeAssert_lacksB Tryz.underlying96 (by kernel_rfl) (by kernel_rfl) v 68 w
theorem ta103_3 (v : Value) (w : World) : (Instr.typeAssert (.iface 103 v) 68 138 true).run Tryz.prog w = .ok (.tuple #[.nilIface, .bool false]) w := run_typeAssert_lacksB Tryz.underlying138 (by kernel_rfl) (by kernel_rfl) v 68 w
theorem ta103_4 (v : Value) (w : World) : (Instr.typeAssert (.iface 103 v) 68 126 true).run Tryz.prog w = .ok (.tuple #[.nilIface, .bool false]) w := run_typeAssert_lacksB Tryz.underlying126 (by kernel_rfl) (by kernel_rfl) v 68 w
theorem ta103_5 (v : Value) (w : World) : (Instr.typeAssert (.iface 103 v) 68 129 true).run Tryz.prog w = .ok (.tuple #[.iface 103 v, .bool true]) w := run_typeAssert_hasB Tryz.underlying129 (by kernel_rfl) v 68 w
theorem ta103_6 (v : Value) (w : World) : (Instr.typeAssert (.iface 103 v) 68 75 true).run Tryz.prog w = .ok (.tuple #[.nilIface, .bool false]) w := run_typeAssert_lacksB Tryz.underlying75 (by kernel_rfl) (by kernel_rfl) v 68 w
theorem ta103_7 (v : Value) (w : World) : (Instr.typeAssert (.iface 103 v) 68 143 true).run Tryz.prog w = .ok (.tuple #[.nilIface, .bool false]) w := run_typeAssert_lacksB Tryz.underlying143 (by kernel_rfl) (by kernel_rfl) v 68 w
set_option maxRecDepth 100000 in
theorem has103 (v : Value) (m : Int) (w : World) : Calls Tryz.prog 56 #[.iface 103 v, .int .i64 m] w (fun e w' => e = .returned (.bool (hasK 4 m)) ∧ w' = w) := by
  have a0 := ta103_0 v
  have a1 := ta103_1 v
  have a2 := ta103_2 v
  have a3 := ta103_3 v
  have a4 := ta103_4 v
  have a5 := ta103_5 v
  have a6 := ta103_6 v
  have a7 := ta103_7 v
  go_enter Tryz.func56, Tryz.ntmps56
  rcases face_cases m with rfl | rfl | rfl | rfl | rfl | rfl | rfl | rfl | ⟨m0, m1, m2, m3, m4, m5, m6, m7⟩
  all_goals
    go_wp2_with fail
    go_ret
    exact ⟨by simp [hasK, *], rfl⟩
theorem ta106_0 (v : Value) (w : World) : (Instr.typeAssert (.iface 106 v) 68 92 true).run Tryz.prog w = .ok (.tuple #[.nilIface, .bool false]) w := run_typeAssert_lacksB Tryz.underlying92 (by kernel_rfl) (by kernel_rfl) v 68 w
theorem ta106_1 (v : Value) (w : World) : (Instr.typeAssert (.iface 106 v) 68 134 true).run Tryz.prog w = .ok (.tuple #[.nilIface, .bool false]) w := run_typeAssert_lacksB Tryz.underlying134 (by kernel_rfl) (by kernel_rfl) v 68 w
theorem ta106_2 (v : Value) (w : World) : (Instr.typeAssert (.iface 106 v) 68 96 true).run Tryz.prog w = .ok (.tuple #[.nilIface, .bool false]) w := run_typeAssert_lacksB Tryz.underlying96 (by kernel_rfl) (by kernel_rfl) v 68 w
theorem ta106_3 (v : Value) (w : World) : (Instr.typeAssert (.iface 106 v) 68 138 true).run Tryz.prog w = .ok (.tuple #[.nilIface, .bool false]) w := run_typeAssert_lacksB Tryz.underlying138 (by kernel_rfl) (by kernel_rfl) v 68 w
theorem ta106_4 (v : Value) (w : World) : (Instr.typeAssert (.iface 106 v) 68 126 true).run Tryz.prog w = .ok (.tuple #[.nilIface, .bool false]) w := run_typeAssert_lacksB Tryz.underlying126 (by kernel_rfl) (by kernel_rfl) v 68 w
theorem ta106_5 (v : Value) (w : World) : (Instr.typeAssert (.iface 106 v) 68 129 true).run Tryz.prog w = .ok (.tuple #[.nilIface, .bool false]) w := run_typeAssert_lacksB Tryz.underlying129 (by kernel_rfl) (by kernel_rfl) v 68 w
theorem ta106_6 (v : Value) (w : World) : (Instr.typeAssert (.iface 106 v) 68 75 true).run Tryz.prog w = .ok (.tuple #[.nilIface, .bool false]) w := run_typeAssert_lacksB Tryz.underlying75 (by kernel_rfl) (by kernel_rfl) v 68 w
theorem ta106_7 (v : Value) (w : World) : (Instr.typeAssert (.iface 106 v) 68 143 true).run Tryz.prog w = .ok (.tuple #[.nilIface, .bool false]) w := run_typeAssert_lacksB Tryz.underlying143 (by kernel_rfl) (by kernel_rfl) v 68 w
set_option maxRecDepth 100000 in
theorem has106 (v : Value) (m : Int) (w : World) : Calls Tryz.prog 56 #[.iface 106 v, .int .i64 m] w (fun e w' => e = .returned (.bool (hasK 5 m)) ∧ w' = w) := by
  have a0 := ta106_0 v
  have a1 := ta106_1 v
  have a2 := ta106_2 v
  have a3 := ta106_3 v
  have a4 := ta106_4 v
  have a5 := ta106_5 v
  have a6 := ta106_6 v
  have a7 := ta106_7 v
  go_enter Tryz.func56, Tryz.ntmps56
  rcases face_cases m with rfl | rfl | rfl | rfl | rfl | rfl | rfl | rfl | ⟨m0, m1, m2, m3, m4, m5, m6, m7⟩
  all_goals
    go_wp2_with fail
    go_ret
    exact ⟨by simp [hasK, *], rfl⟩
theorem ta107_0 (v : Value) (w : World) : (Instr.typeAssert (.iface 107 v) 68 92 true).run Tryz.prog w = .ok (.tuple #[.nilIface, .bool false]) w := run_typeAssert_lacksB Tryz.underlying92 (by kernel_rfl) (by kernel_rfl) v 68 w
theorem ta107_1 (v : Value) (w : World) : (Instr.typeAssert (.iface 107 v) 68 134 true).run Tryz.prog w = .ok (.tuple #[.nilIface, .bool false]) w := run_typeAssert_lacksB Tryz.underlying134 (by kernel_rfl) (by kernel_rfl) v 68 w
theorem ta107_2 (v : Value) (w : World) : (Instr.typeAssert (.iface 107 v) 68 96 true).run Tryz.prog w = .ok (.tuple #[.nilIface, .bool false]) w := run_typeAssert_lacksB Tryz.underlying96 (by kernel_rfl) (by kernel_rfl) v 68 w
theorem ta107_3 (v : Value) (w : World) : (Instr.typeAssert (.iface 107 v) 68 138 true).run Tryz.prog w = .ok (.tuple #[.nilIface, .bool false]) w := run_typeAssert_lacksB Tryz.underlying138 (by kernel_rfl) (by kernel_rfl) v 68 w
theorem ta107_4 (v : Value) (w : World) : (Instr.typeAssert (.iface 107 v) 68 126 true).run Tryz.prog w = .ok (.tuple #[.nilIface, .bool false]) w := run_typeAssert_lacksB Tryz.underlying126 (by kernel_rfl) (by kernel_rfl) v 68 w
theorem ta107_5 (v : Value) (w : World) : (Instr.typeAssert (.iface 107 v) 68 129 true).run Tryz.prog w = .ok (.tuple #[.nilIface, .bool false]) w := run_typeAssert_lacksB Tryz.underlying129 (by kernel_rfl) (by kernel_rfl) v 68 w
theorem ta107_6 (v : Value) (w : World) : (Instr.typeAssert (.iface 107 v) 68 75 true).run Tryz.prog w = .ok (.tuple #[.nilIface, .bool false]) w := run_typeAssert_lacksB Tryz.underlying75 (by kernel_rfl) (by kernel_rfl) v 68 w
theorem ta107_7 (v : Value) (w : World) : (Instr.typeAssert (.iface 107 v) 68 143 true).run Tryz.prog w = .ok (.tuple #[.nilIface, .bool false]) w := run_typeAssert_lacksB Tryz.underlying143 (by kernel_rfl) (by kernel_rfl) v 68 w
set_option maxRecDepth 100000 in
theorem has107 (v : Value) (m : Int) (w : World) : Calls Tryz.prog 56 #[.iface 107 v, .int .i64 m] w (fun e w' => e = .returned (.bool (hasK 6 m)) ∧ w' = w) := by
  have a0 := ta107_0 v
  have a1 := ta107_1 v
  have a2 := ta107_2 v
  have a3 := ta107_3 v
  have a4 := ta107_4 v
  have a5 := ta107_5 v
  have a6 := ta107_6 v
  have a7 := ta107_7 v
  go_enter Tryz.func56, Tryz.ntmps56
  rcases face_cases m with rfl | rfl | rfl | rfl | rfl | rfl | rfl | rfl | ⟨m0, m1, m2, m3, m4, m5, m6, m7⟩
  all_goals
    go_wp2_with fail
    go_ret
    exact ⟨by simp [hasK, *], rfl⟩
theorem ta108_0 (v : Value) (w : World) : (Instr.typeAssert (.iface 108 v) 68 92 true).run Tryz.prog w = .ok (.tuple #[.nilIface, .bool false]) w := run_typeAssert_lacksB Tryz.underlying92 (by kernel_rfl) (by kernel_rfl) v 68 w
theorem ta108_1 (v : Value) (w : World) : (Instr.typeAssert (.iface 108 v) 68 134 true).run Tryz.prog w = .ok (.tuple #[.nilIface, .bool false]) w := run_typeAssert_lacksB Tryz.underlying134 (by kernel_rfl) (by kernel_rfl) v 68 w
theorem ta108_2 (v : Value) (w : World) : (Instr.typeAssert (.iface 108 v) 68 96 true).run Tryz.prog w = .ok (.tuple #[.nilIface, .bool false]) w := run_typeAssert_lacksB Tryz.underlying96 (by kernel_rfl) (by kernel_rfl) v 68 w
theorem ta108_3 (v : Value) (w : World) : (Instr.typeAssert (.iface 108 v) 68 138 true).run Tryz.prog w = .ok (.tuple #[.nilIface, .bool false]) w := run_typeAssert_lacksB Tryz.underlying138 (by kernel_rfl) (by kernel_rfl) v 68 w
theorem ta108_4 (v : Value) (w : World) : (Instr.typeAssert (.iface 108 v) 68 126 true).run Tryz.prog w = .ok (.tuple #[.iface 108 v, .bool true]) w := run_typeAssert_hasB Tryz.underlying126 (by kernel_rfl) v 68 w
theorem ta108_5 (v : Value) (w : World) : (Instr.typeAssert (.iface 108 v) 68 129 true).run Tryz.prog w = .ok (.tuple #[.nilIface, .bool false]) w := run_typeAssert_lacksB Tryz.underlying129 (by kernel_rfl) (by kernel_rfl) v 68 w
theorem ta108_6 (v : Value) (w : World) : (Instr.typeAssert (.iface 108 v) 68 75 true).run Tryz.prog w = .ok (.tuple #[.iface 108 v, .bool true]) w := run_typeAssert_hasB Tryz.underlying75 (by kernel_rfl) v 68 w
theorem ta108_7 (v : Value) (w : World) : (Instr.typeAssert (.iface 108 v) 68 143 true).run Tryz.prog w = .ok (.tuple #[.nilIface, .bool false]) w := run_typeAssert_lacksB Tryz.underlying143 (by kernel_rfl) (by kernel_rfl) v 68 w
set_option maxRecDepth 100000 in
theorem has108 (v : Value) (m : Int) (w : World) : Calls Tryz.prog 56 #[.iface 108 v, .int .i64 m] w (fun e w' => e = .returned (.bool (hasK 8 m)) ∧ w' = w) := by
  have a0 := ta108_0 v
  have a1 := ta108_1 v
  have a2 := ta108_2 v
  have a3 := ta108_3 v
  have a4 := ta108_4 v
  have a5 := ta108_5 v
  have a6 := ta108_6 v
  have a7 := ta108_7 v
  go_enter Tryz.func56, Tryz.ntmps56
  rcases face_cases m with rfl | rfl | rfl | rfl | rfl | rfl | rfl | rfl | ⟨m0, m1, m2, m3, m4, m5, m6, m7⟩
  all_goals
    go_wp2_with fail
    go_ret
    exact ⟨by simp [hasK, *], rfl⟩
theorem ta109_0 (v : Value) (w : World) : (Instr.typeAssert (.iface 109 v) 68 92 true).run Tryz.prog w = .ok (.tuple #[.nilIface, .bool false]) w := run_typeAssert_lacksB Tryz.underlying92 (by kernel_rfl) (by kernel_rfl) v 68 w
theorem ta109_1 (v : Value) (w : World) : (Instr.typeAssert (.iface 109 v) 68 134 true).run Tryz.prog w = .ok (.tuple #[.nilIface, .bool false]) w := run_typeAssert_lacksB Tryz.underlying134 (by kernel_rfl) (by kernel_rfl) v 68 w
theorem ta109_2 (v : Value) (w : World) : (Instr.typeAssert (.iface 109 v) 68 96 true).run Tryz.prog w = .ok (.tuple #[.nilIface, .bool false]) w := run_typeAssert_lacksB Tryz.underlying96 (by kernel_rfl) (by kernel_rfl) v 68 w
theorem ta109_3 (v : Value) (w : World) : (Instr.typeAssert (.iface 109 v) 68 138 true).run Tryz.prog w = .ok (.tuple #[.nilIface, .bool false]) w := run_typeAssert_lacksB Tryz.underlying138 (by kernel_rfl) (by kernel_rfl) v 68 w
theorem ta109_4 (v : Value) (w : World) : (Instr.typeAssert (.iface 109 v) 68 126 true).run Tryz.prog w = .ok (.tuple #[.nilIface, .bool false]) w := run_typeAssert_lacksB Tryz.underlying126 (by kernel_rfl) (by kernel_rfl) v 68 w
theorem ta109_5 (v : Value) (w : World) : (Instr.typeAssert (.iface 109 v) 68 129 true).run Tryz.prog w = .ok (.tuple #[.nilIface, .bool false]) w := run_typeAssert_lacksB Tryz.underlying129 (by kernel_rfl) (by kernel_rfl) v 68 w
theorem ta109_6 (v : Value) (w : World) : (Instr.typeAssert (.iface 109 v) 68 75 true).run Tryz.prog w = .ok (.tuple #[.nilIface, .bool false]) w := run_typeAssert_lacksB Tryz.underlying75 (by kernel_rfl) (by kernel_rfl) v 68 w
theorem ta109_7 (v : Value) (w : World) : (Instr.typeAssert (.iface 109 v) 68 143 true).run Tryz.prog w = .ok (.tuple #[.iface 109 v, .bool true]) w := run_typeAssert_hasB Tryz.underlying143 (by kernel_rfl) v 68 w
set_option maxRecDepth 100000 in
theorem has109 (v : Value) (m : Int) (w : World) : Calls Tryz.prog 56 #[.iface 109 v, .int .i64 m] w (fun e w' => e = .returned (.bool (hasK 9 m)) ∧ w' = w) := by
  have a0 := ta109_0 v
  have a1 := ta109_1 v
  have a2 := ta109_2 v
  have a3 := ta109_3 v
  have a4 := ta109_4 v
  have a5 := ta109_5 v
  have a6 := ta109_6 v
  have a7 := ta109_7 v
  go_enter Tryz.func56, Tryz.ntmps56
  rcases face_cases m with rfl | rfl | rfl | rfl | rfl | rfl | rfl | rfl | ⟨m0, m1, m2, m3, m4, m5, m6, m7⟩
  all_goals
    go_wp2_with fail
    go_ret
    exact ⟨by simp [hasK, *], rfl⟩
theorem ta110_0 (v : Value) (w : World) : (Instr.typeAssert (.iface 110 v) 68 92 true).run Tryz.prog w = .ok (.tuple #[.iface 110 v, .bool true]) w := run_typeAssert_hasB Tryz.underlying92 (by kernel_rfl) v 68 w
theorem ta110_1 (v : Value) (w : World) : (Instr.typeAssert (.iface 110 v) 68 134 true).run Tryz.prog w = .ok (.tuple #[.iface 110 v, .bool true]) w := run_typeAssert_hasB Tryz.underlying134 (by kernel_rfl) v 68 w
theorem ta110_2 (v : Value) (w : World) : (Instr.typeAssert (.iface 110 v) 68 96 true).run Tryz.prog w = .ok (.tuple #[.iface 110 v, .bool true]) w := run_typeAssert_hasB Tryz.underlying96 (by kernel_rfl) v 68 w
theorem ta110_3 (v : Value) (w : World) : (Instr.typeAssert (.iface 110 v) 68 138 true).run Tryz.prog w = .ok (.tuple #[.iface 110 v, .bool true]) w := run_typeAssert_hasB Tryz.underlying138 (by kernel_rfl) v 68 w
theorem ta110_4 (v : Value) (w : World) : (Instr.typeAssert (.iface 110 v) 68 126 true).run Tryz.prog w = .ok (.tuple #[.nilIface, .bool false]) w := run_typeAssert_lacksB Tryz.underlying126 (by kernel_rfl) (by kernel_rfl) v 68 w
theorem ta110_5 (v : Value) (w : World) : (Instr.typeAssert (.iface 110 v) 68 129 true).run Tryz.prog w = .ok (.tuple #[.nilIface, .bool false]) w := run_typeAssert_lacksB Tryz.underlying129 (by kernel_rfl) (by kernel_rfl) v 68 w
theorem ta110_6 (v : Value) (w : World) : (Instr.typeAssert (.iface 110 v) 68 75 true).run Tryz.prog w = .ok (.tuple #[.nilIface, .bool false]) w := run_typeAssert_lacksB Tryz.underlying75 (by kernel_rfl) (by kernel_rfl) v 68 w
theorem ta110_7 (v : Value) (w : World) : (Instr.typeAssert (.iface 110 v) 68 143 true).run Tryz.prog w = .ok (.tuple #[.nilIface, .bool false]) w := run_typeAssert_lacksB Tryz.underlying143 (by kernel_rfl) (by kernel_rfl) v 68 w
set_option maxRecDepth 100000 in
theorem has110 (v : Value) (m : Int) (w : World) : Calls Tryz.prog 56 #[.iface 110 v, .int .i64 m] w (fun e w' => e = .returned (.bool (hasK 10 m)) ∧ w' = w) := by
  have a0 := ta110_0 v
  have a1 := ta110_1 v
  have a2 := ta110_2 v
  have a3 := ta110_3 v
  have a4 := ta110_4 v
  have a5 := ta110_5 v
  have a6 := ta110_6 v
  have a7 := ta110_7 v
  go_enter Tryz.func56, Tryz.ntmps56
  rcases face_cases m with rfl | rfl | rfl | rfl | rfl | rfl | rfl | rfl | ⟨m0, m1, m2, m3, m4, m5, m6, m7⟩
  all_goals
    go_wp2_with fail
    go_ret
    exact ⟨by simp [hasK, *], rfl⟩
theorem canN {k : Int} (m : Int) (c : Int) (t : Bs) (cl : Option Addr) (cn cc q p : Nat) (h1 : 1 ≤ k) (h2 : k ≤ 10) (w : World) : Calls Tryz.prog 56 #[vErr k c t cl cn cc q p, .int .i64 m] w (fun e w' => e = .returned (.bool (hasK k m)) ∧ w' = w) := by
  rcases kinds_cases k with rfl | rfl | rfl | rfl | rfl | rfl | rfl | rfl | rfl | rfl | ⟨h1, h2, h3, h4, h5, h6, h7, h8, h9, h10⟩
  · exact (has101 _ m w)
  · exact (has89 _ m w)
  · exact (has102 _ m w)
  · exact (has103 _ m w)
  · exact (has106 _ m w)
  · exact (has107 _ m w)
  · exact (has89 _ m w).mono (fun e w' h => by simpa [hasK] using h)
  · exact (has108 _ m w)
  · exact (has109 _ m w)
  · exact (has110 _ m w)
  · omega
theorem hasK_out {k m : Int} (h : k ≤ 0 ∨ 11 ≤ k) : hasK k m = false := by
  unfold hasK
  repeat' split
  all_goals simp
  all_goals omega
set_option maxRecDepth 100000 in
theorem ehasN (k m : Int) (w : World) : Calls Tryz.prog 19 #[.int .i64 k, .int .i64 m] w (fun e w' => e = .returned (.bool (hasK k m)) ∧ Below w.heap.size w w') := by
  have HC := Lib.hid (evalueN k 0 0 [] Dt.zero none 0 0 none 0 0 none 0 0 w)
  unfold vE Dt.zero at HC
  go_enter Tryz.func19, Tryz.ntmps19
  by_cases h0 : k ≤ 0
  · go_wp2_with fail
    go_ret
    exact ⟨by rw [hasK_out (.inl h0)]; rfl, Below.refl _ _⟩
  · by_cases h11 : 11 ≤ k
    · go_wp2_with fail
      go_ret
      exact ⟨by rw [hasK_out (.inr h11)]; rfl, Below.refl _ _⟩
    · go_wp2_with (first
        | (go_at_call 50; (with_reducible refine HC.out.mono ?_); rintro e2 w2 ⟨rfl, hB, _⟩; have HB2 := Lib.hid hB; have HX := Lib.hid (canN m 0 [] none 0 0 w.heap.size (w.heap.size + 1) (k := k) (by omega) (by omega) w2); clear hB)
        | (go_at_call 56; (with_reducible refine HX.out.mono ?_); rintro e3 w3 ⟨rfl, rfl⟩))
      go_ret
      exact ⟨rfl, HB2.out⟩
end Go.Proofs.YtbldidiibkcelaaGreatDoor

