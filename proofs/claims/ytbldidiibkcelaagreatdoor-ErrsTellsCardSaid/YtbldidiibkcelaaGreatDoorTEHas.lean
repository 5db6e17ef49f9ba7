/-
  ErrsValid: the document's Has, the code's can at each kind's dynamic type, Has (walks). Not a statement of the seat.
-/
import Derived.Test.YtbldidiibkcelaaGreatDoorTEFields
import Derived.Stop.Asserts
namespace Go.Proofs.YtbldidiibkcelaaGreatDoor
open Go.RowKit

/-- which kind has which interface -/
def hasK (k m : Int) : Bool :=
  if m = 0 then k == 10 else if m = 1 then k == 10 else if m = 2 then k == 1 || k == 10 else if m = 3 then k == 10
  else if m = 4 then k == 3 || k == 8 else if m = 5 then k == 4 else if m = 6 then k == 8 else if m = 7 then k == 9 else false
theorem kinds_cases (k : Int) : k = 1 ∨ k = 2 ∨ k = 3 ∨ k = 4 ∨ k = 5 ∨ k = 6 ∨ k = 7 ∨ k = 8 ∨ k = 9 ∨ k = 10 ∨ (k ≠ 1 ∧ k ≠ 2 ∧ k ≠ 3 ∧ k ≠ 4 ∧ k ≠ 5 ∧ k ≠ 6 ∧ k ≠ 7 ∧ k ≠ 8 ∧ k ≠ 9 ∧ k ≠ 10) := by omega
theorem face_cases (m : Int) : m = 0 ∨ m = 1 ∨ m = 2 ∨ m = 3 ∨ m = 4 ∨ m = 5 ∨ m = 6 ∨ m = 7 ∨ (m ≠ 0 ∧ m ≠ 1 ∧ m ≠ 2 ∧ m ≠ 3 ∧ m ≠ 4 ∧ m ≠ 5 ∧ m ≠ 6 ∧ m ≠ 7) := by omega
set_option maxRecDepth 100000 in
set_option maxHeartbeats 8000000 in
theorem rhasN (k m : Int) (w : World) : Calls Tryz.prog 20 #[.int .i64 k, .int .i64 m] w (fun e w' => e = .returned (.bool (hasK k m)) ∧ w' = w) := by
  go_enter Tryz.func20, Tryz.ntmps20
  rcases face_cases m with rfl | rfl | rfl | rfl | rfl | rfl | rfl | rfl | ⟨m0, m1, m2, m3, m4, m5, m6, m7⟩
  · rcases kinds_cases k with rfl | rfl | rfl | rfl | rfl | rfl | rfl | rfl | rfl | rfl | ⟨h1, h2, h3, h4, h5, h6, h7, h8, h9, h10⟩
    all_goals
      go_wp2_with fail
      go_ret
      exact ⟨by simp [hasK, *], rfl⟩
  · rcases kinds_cases k with rfl | rfl | rfl | rfl | rfl | rfl | rfl | rfl | rfl | rfl | ⟨h1, h2, h3, h4, h5, h6, h7, h8, h9, h10⟩
    all_goals
      go_wp2_with fail
      go_ret
      exact ⟨by simp [hasK, *], rfl⟩
  · rcases kinds_cases k with rfl | rfl | rfl | rfl | rfl | rfl | rfl | rfl | rfl | rfl | ⟨h1, h2, h3, h4, h5, h6, h7, h8, h9, h10⟩
    all_goals
      go_wp2_with fail
      go_ret
      exact ⟨by simp [hasK, *], rfl⟩
  · rcases kinds_cases k with rfl | rfl | rfl | rfl | rfl | rfl | rfl | rfl | rfl | rfl | ⟨h1, h2, h3, h4, h5, h6, h7, h8, h9, h10⟩
    all_goals
      go_wp2_with fail
      go_ret
      exact ⟨by simp [hasK, *], rfl⟩
  · rcases kinds_cases k with rfl | rfl | rfl | rfl | rfl | rfl | rfl | rfl | rfl | rfl | ⟨h1, h2, h3, h4, h5, h6, h7, h8, h9, h10⟩
    all_goals
      go_wp2_with fail
      go_ret
      exact ⟨by simp [hasK, *], rfl⟩
  · rcases kinds_cases k with rfl | rfl | rfl | rfl | rfl | rfl | rfl | rfl | rfl | rfl | ⟨h1, h2, h3, h4, h5, h6, h7, h8, h9, h10⟩
    all_goals
      go_wp2_with fail
      go_ret
      exact ⟨by simp [hasK, *], rfl⟩
  · rcases kinds_cases k with rfl | rfl | rfl | rfl | rfl | rfl | rfl | rfl | rfl | rfl | ⟨h1, h2, h3, h4, h5, h6, h7, h8, h9, h10⟩
    all_goals
      go_wp2_with fail
      go_ret
      exact ⟨by simp [hasK, *], rfl⟩
  · rcases kinds_cases k with rfl | rfl | rfl | rfl | rfl | rfl | rfl | rfl | rfl | rfl | ⟨h1, h2, h3, h4, h5, h6, h7, h8, h9, h10⟩
    all_goals
      go_wp2_with fail
      go_ret
      exact ⟨by simp [hasK, *], rfl⟩
  · go_wp2_with fail
    go_ret
    exact ⟨by simp [hasK, *], rfl⟩
theorem ta89_4 (v : Value) (w : World) : (Instr.typeAssert (.iface 89 v) 68 126 true).run Tryz.prog w = .ok (.tuple #[.nilIface, .bool false]) w := run_typeAssert_lacksB Tryz.underlying126 (by kernel_rfl) (by kernel_rfl) v 68 w
theorem ta89_5 (v : Value) (w : World) : (Instr.typeAssert (.iface 89 v) 68 129 true).run Tryz.prog w = .ok (.tuple #[.nilIface, .bool false]) w := run_typeAssert_lacksB Tryz.underlying129 (by kernel_rfl) (by kernel_rfl) v 68 w
theorem ta101_4 (v : Value) (w : World) : (Instr.typeAssert (.iface 101 v) 68 126 true).run Tryz.prog w = .ok (.tuple #[.nilIface, .bool false]) w := run_typeAssert_lacksB Tryz.underlying126 (by kernel_rfl) (by kernel_rfl) v 68 w
theorem ta101_5 (v : Value) (w : World) : (Instr.typeAssert (.iface 101 v) 68 129 true).run Tryz.prog w = .ok (.tuple #[.nilIface, .bool false]) w := run_typeAssert_lacksB Tryz.underlying129 (by kernel_rfl) (by kernel_rfl) v 68 w
theorem ta101_6 (v : Value) (w : World) : (Instr.typeAssert (.iface 101 v) 68 75 true).run Tryz.prog w = .ok (.tuple #[.nilIface, .bool false]) w := run_typeAssert_lacksB Tryz.underlying75 (by kernel_rfl) (by kernel_rfl) v 68 w
theorem ta102_4 (v : Value) (w : World) : (Instr.typeAssert (.iface 102 v) 68 126 true).run Tryz.prog w = .ok (.tuple #[.iface 102 v, .bool true]) w := run_typeAssert_hasB Tryz.underlying126 (by kernel_rfl) v 68 w
theorem ta102_5 (v : Value) (w : World) : (Instr.typeAssert (.iface 102 v) 68 129 true).run Tryz.prog w = .ok (.tuple #[.nilIface, .bool false]) w := run_typeAssert_lacksB Tryz.underlying129 (by kernel_rfl) (by kernel_rfl) v 68 w
theorem ta102_6 (v : Value) (w : World) : (Instr.typeAssert (.iface 102 v) 68 75 true).run Tryz.prog w = .ok (.tuple #[.nilIface, .bool false]) w := run_typeAssert_lacksB Tryz.underlying75 (by kernel_rfl) (by kernel_rfl) v 68 w
theorem ta103_4 (v : Value) (w : World) : (Instr.typeAssert (.iface 103 v) 68 126 true).run Tryz.prog w = .ok (.tuple #[.nilIface, .bool false]) w := run_typeAssert_lacksB Tryz.underlying126 (by kernel_rfl) (by kernel_rfl) v 68 w
theorem ta103_5 (v : Value) (w : World) : (Instr.typeAssert (.iface 103 v) 68 129 true).run Tryz.prog w = .ok (.tuple #[.iface 103 v, .bool true]) w := run_typeAssert_hasB Tryz.underlying129 (by kernel_rfl) v 68 w
theorem ta106_4 (v : Value) (w : World) : (Instr.typeAssert (.iface 106 v) 68 126 true).run Tryz.prog w = .ok (.tuple #[.nilIface, .bool false]) w := run_typeAssert_lacksB Tryz.underlying126 (by kernel_rfl) (by kernel_rfl) v 68 w
theorem ta106_5 (v : Value) (w : World) : (Instr.typeAssert (.iface 106 v) 68 129 true).run Tryz.prog w = .ok (.tuple #[.nilIface, .bool false]) w := run_typeAssert_lacksB Tryz.underlying129 (by kernel_rfl) (by kernel_rfl) v 68 w
theorem ta107_4 (v : Value) (w : World) : (Instr.typeAssert (.iface 107 v) 68 126 true).run Tryz.prog w = .ok (.tuple #[.nilIface, .bool false]) w := run_typeAssert_lacksB Tryz.underlying126 (by kernel_rfl) (by kernel_rfl) v 68 w
theorem ta107_5 (v : Value) (w : World) : (Instr.typeAssert (.iface 107 v) 68 129 true).run Tryz.prog w = .ok (.tuple #[.nilIface, .bool false]) w := run_typeAssert_lacksB Tryz.underlying129 (by kernel_rfl) (by kernel_rfl) v 68 w
theorem ta108_4 (v : Value) (w : World) : (Instr.typeAssert (.iface 108 v) 68 126 true).run Tryz.prog w = .ok (.tuple #[.iface 108 v, .bool true]) w := run_typeAssert_hasB Tryz.underlying126 (by kernel_rfl) v 68 w
theorem ta108_5 (v : Value) (w : World) : (Instr.typeAssert (.iface 108 v) 68 129 true).run Tryz.prog w = .ok (.tuple #[.nilIface, .bool false]) w := run_typeAssert_lacksB Tryz.underlying129 (by kernel_rfl) (by kernel_rfl) v 68 w
theorem ta109_4 (v : Value) (w : World) : (Instr.typeAssert (.iface 109 v) 68 126 true).run Tryz.prog w = .ok (.tuple #[.nilIface, .bool false]) w := run_typeAssert_lacksB Tryz.underlying126 (by kernel_rfl) (by kernel_rfl) v 68 w
theorem ta109_5 (v : Value) (w : World) : (Instr.typeAssert (.iface 109 v) 68 129 true).run Tryz.prog w = .ok (.tuple #[.nilIface, .bool false]) w := run_typeAssert_lacksB Tryz.underlying129 (by kernel_rfl) (by kernel_rfl) v 68 w
theorem ta110_4 (v : Value) (w : World) : (Instr.typeAssert (.iface 110 v) 68 126 true).run Tryz.prog w = .ok (.tuple #[.nilIface, .bool false]) w := run_typeAssert_lacksB Tryz.underlying126 (by kernel_rfl) (by kernel_rfl) v 68 w
theorem ta110_5 (v : Value) (w : World) : (Instr.typeAssert (.iface 110 v) 68 129 true).run Tryz.prog w = .ok (.tuple #[.nilIface, .bool false]) w := run_typeAssert_lacksB Tryz.underlying129 (by kernel_rfl) (by kernel_rfl) v 68 w
end Go.Proofs.YtbldidiibkcelaaGreatDoor

