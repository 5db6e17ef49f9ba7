/-
  DatumHas: the document's Has, the code's has at each kind's dynamic type (walks). Not a statement of the seat.
-/
import Derived.Test.YtofpdhkdnbnobaaGreatDoorValB
import Derived.Stop.Asserts
namespace Go.Proofs.YtofpdhkdnbnobaaGreatDoor
open Go.RowKit

/-- which kind has which method -/
def hasK (k m : Int) : Bool :=
  if m = 0 then k == 4 || k == 5 || k == 7 || k == 8 || k == 9 || k == 11 || k == 12
  else if m = 1 then k == 5 || k == 2 || k == 10
  else if m = 2 then k == 10 || k == 11 || k == 12
  else if m = 3 then k == 11 || k == 12
  else if m = 4 then k == 1 || k == 2 || k == 3 || k == 4 || k == 5
  else if m = 5 then k == 1 || k == 3
  else false
theorem kinds_cases (k : Int) : k = 1 ∨ k = 2 ∨ k = 3 ∨ k = 4 ∨ k = 5 ∨ k = 6 ∨ k = 7 ∨ k = 8 ∨ k = 9 ∨ k = 10 ∨ k = 11 ∨ k = 12 ∨ k = 13 ∨ (k ≠ 1 ∧ k ≠ 2 ∧ k ≠ 3 ∧ k ≠ 4 ∧ k ≠ 5 ∧ k ≠ 6 ∧ k ≠ 7 ∧ k ≠ 8 ∧ k ≠ 9 ∧ k ≠ 10 ∧ k ≠ 11 ∧ k ≠ 12 ∧ k ≠ 13) := by omega
theorem meth_cases (m : Int) : m = 0 ∨ m = 1 ∨ m = 2 ∨ m = 3 ∨ m = 4 ∨ m = 5 ∨ (m ≠ 0 ∧ m ≠ 1 ∧ m ≠ 2 ∧ m ≠ 3 ∧ m ≠ 4 ∧ m ≠ 5) := by omega

set_option maxRecDepth 100000 in
set_option maxHeartbeats 8000000 in
theorem rhasN (k m : Int) (w : World) : Calls Tryz.prog 5 #[.int .i64 k, .int .i64 m] w (fun e w' => e = .returned (.bool (hasK k m)) ∧ w' = w) := by
  go_enter Tryz.func5, Tryz.ntmps5
  rcases meth_cases m with rfl | rfl | rfl | rfl | rfl | rfl | ⟨m0, m1, m2, m3, m4, m5⟩
  · rcases kinds_cases k with rfl | rfl | rfl | rfl | rfl | rfl | rfl | rfl | rfl | rfl | rfl | rfl | rfl | ⟨h1, h2, h3, h4, h5, h6, h7, h8, h9, h10, h11, h12, h13⟩
    all_goals
      go_wp2_with fail
      go_ret
      exact ⟨by simp [hasK, *], rfl⟩
  · rcases kinds_cases k with rfl | rfl | rfl | rfl | rfl | rfl | rfl | rfl | rfl | rfl | rfl | rfl | rfl | ⟨h1, h2, h3, h4, h5, h6, h7, h8, h9, h10, h11, h12, h13⟩
    all_goals
      go_wp2_with fail
      go_ret
      exact ⟨by simp [hasK, *], rfl⟩
  · rcases kinds_cases k with rfl | rfl | rfl | rfl | rfl | rfl | rfl | rfl | rfl | rfl | rfl | rfl | rfl | ⟨h1, h2, h3, h4, h5, h6, h7, h8, h9, h10, h11, h12, h13⟩
    all_goals
      go_wp2_with fail
      go_ret
      exact ⟨by simp [hasK, *], rfl⟩
  · rcases kinds_cases k with rfl | rfl | rfl | rfl | rfl | rfl | rfl | rfl | rfl | rfl | rfl | rfl | rfl | ⟨h1, h2, h3, h4, h5, h6, h7, h8, h9, h10, h11, h12, h13⟩
    all_goals
      go_wp2_with fail
      go_ret
      exact ⟨by simp [hasK, *], rfl⟩
  · rcases kinds_cases k with rfl | rfl | rfl | rfl | rfl | rfl | rfl | rfl | rfl | rfl | rfl | rfl | rfl | ⟨h1, h2, h3, h4, h5, h6, h7, h8, h9, h10, h11, h12, h13⟩
    all_goals
      go_wp2_with fail
      go_ret
      exact ⟨by simp [hasK, *], rfl⟩
  · rcases kinds_cases k with rfl | rfl | rfl | rfl | rfl | rfl | rfl | rfl | rfl | rfl | rfl | rfl | rfl | ⟨h1, h2, h3, h4, h5, h6, h7, h8, h9, h10, h11, h12, h13⟩
    all_goals
      go_wp2_with fail
      go_ret
      exact ⟨by simp [hasK, *], rfl⟩
  · go_wp2_with fail
    go_ret
    exact ⟨by simp [hasK, *], rfl⟩
theorem ta68_0 (v : Value) (w : World) : (Instr.typeAssert (.iface 68 v) 20 36 true).run Tryz.prog w = .ok (.tuple #[.nilIface, .bool false]) w := run_typeAssert_lacksB Tryz.underlying36 (by kernel_rfl) (by kernel_rfl) v 20 w
theorem ta68_1 (v : Value) (w : World) : (Instr.typeAssert (.iface 68 v) 20 39 true).run Tryz.prog w = .ok (.tuple #[.nilIface, .bool false]) w := run_typeAssert_lacksB Tryz.underlying39 (by kernel_rfl) (by kernel_rfl) v 20 w
theorem ta68_2 (v : Value) (w : World) : (Instr.typeAssert (.iface 68 v) 20 42 true).run Tryz.prog w = .ok (.tuple #[.nilIface, .bool false]) w := run_typeAssert_lacksB Tryz.underlying42 (by kernel_rfl) (by kernel_rfl) v 20 w
theorem ta68_3 (v : Value) (w : World) : (Instr.typeAssert (.iface 68 v) 20 45 true).run Tryz.prog w = .ok (.tuple #[.nilIface, .bool false]) w := run_typeAssert_lacksB Tryz.underlying45 (by kernel_rfl) (by kernel_rfl) v 20 w
theorem ta68_4 (v : Value) (w : World) : (Instr.typeAssert (.iface 68 v) 20 48 true).run Tryz.prog w = .ok (.tuple #[.iface 68 v, .bool true]) w := run_typeAssert_hasB Tryz.underlying48 (by kernel_rfl) v 20 w
theorem ta68_5 (v : Value) (w : World) : (Instr.typeAssert (.iface 68 v) 20 51 true).run Tryz.prog w = .ok (.tuple #[.iface 68 v, .bool true]) w := run_typeAssert_hasB Tryz.underlying51 (by kernel_rfl) v 20 w
set_option maxRecDepth 100000 in
theorem has68 (v : Value) (m : Int) (w : World) : Calls Tryz.prog 7 #[.iface 68 v, .int .i64 m] w (fun e w' => e = .returned (.bool (hasK 1 m)) ∧ w' = w) := by
  have a0 := ta68_0 v
  have a1 := ta68_1 v
  have a2 := ta68_2 v
  have a3 := ta68_3 v
  have a4 := ta68_4 v
  have a5 := ta68_5 v
  go_enter Tryz.func7, Tryz.ntmps7
  rcases meth_cases m with rfl | rfl | rfl | rfl | rfl | rfl | ⟨m0, m1, m2, m3, m4, m5⟩
  all_goals
    go_wp2_with fail
    go_ret
    exact ⟨by simp [hasK, *], rfl⟩
theorem ta69_0 (v : Value) (w : World) : (Instr.typeAssert (.iface 69 v) 20 36 true).run Tryz.prog w = .ok (.tuple #[.nilIface, .bool false]) w := run_typeAssert_lacksB Tryz.underlying36 (by kernel_rfl) (by kernel_rfl) v 20 w
theorem ta69_1 (v : Value) (w : World) : (Instr.typeAssert (.iface 69 v) 20 39 true).run Tryz.prog w = .ok (.tuple #[.iface 69 v, .bool true]) w := run_typeAssert_hasB Tryz.underlying39 (by kernel_rfl) v 20 w
theorem ta69_2 (v : Value) (w : World) : (Instr.typeAssert (.iface 69 v) 20 42 true).run Tryz.prog w = .ok (.tuple #[.nilIface, .bool false]) w := run_typeAssert_lacksB Tryz.underlying42 (by kernel_rfl) (by kernel_rfl) v 20 w
theorem ta69_3 (v : Value) (w : World) : (Instr.typeAssert (.iface 69 v) 20 45 true).run Tryz.prog w = .ok (.tuple #[.nilIface, .bool false]) w := run_typeAssert_lacksB Tryz.underlying45 (by kernel_rfl) (by kernel_rfl) v 20 w
theorem ta69_4 (v : Value) (w : World) : (Instr.typeAssert (.iface 69 v) 20 48 true).run Tryz.prog w = .ok (.tuple #[.iface 69 v, .bool true]) w := run_typeAssert_hasB Tryz.underlying48 (by kernel_rfl) v 20 w
theorem ta69_5 (v : Value) (w : World) : (Instr.typeAssert (.iface 69 v) 20 51 true).run Tryz.prog w = .ok (.tuple #[.nilIface, .bool false]) w := run_typeAssert_lacksB Tryz.underlying51 (by kernel_rfl) (by kernel_rfl) v 20 w
set_option maxRecDepth 100000 in
theorem has69 (v : Value) (m : Int) (w : World) : Calls Tryz.prog 7 #[.iface 69 v, .int .i64 m] w (fun e w' => e = .returned (.bool (hasK 2 m)) ∧ w' = w) := by
  have a0 := ta69_0 v
  have a1 := ta69_1 v
  have a2 := ta69_2 v
  have a3 := ta69_3 v
  have a4 := ta69_4 v
  have a5 := ta69_5 v
  go_enter Tryz.func7, Tryz.ntmps7
  rcases meth_cases m with rfl | rfl | rfl | rfl | rfl | rfl | ⟨m0, m1, m2, m3, m4, m5⟩
  all_goals
    go_wp2_with fail
    go_ret
    exact ⟨by simp [hasK, *], rfl⟩
theorem ta71_0 (v : Value) (w : World) : (Instr.typeAssert (.iface 71 v) 20 36 true).run Tryz.prog w = .ok (.tuple #[.nilIface, .bool false]) w := run_typeAssert_lacksB Tryz.underlying36 (by kernel_rfl) (by kernel_rfl) v 20 w
theorem ta71_1 (v : Value) (w : World) : (Instr.typeAssert (.iface 71 v) 20 39 true).run Tryz.prog w = .ok (.tuple #[.nilIface, .bool false]) w := run_typeAssert_lacksB Tryz.underlying39 (by kernel_rfl) (by kernel_rfl) v 20 w
theorem ta71_2 (v : Value) (w : World) : (Instr.typeAssert (.iface 71 v) 20 42 true).run Tryz.prog w = .ok (.tuple #[.nilIface, .bool false]) w := run_typeAssert_lacksB Tryz.underlying42 (by kernel_rfl) (by kernel_rfl) v 20 w
theorem ta71_3 (v : Value) (w : World) : (Instr.typeAssert (.iface 71 v) 20 45 true).run Tryz.prog w = .ok (.tuple #[.nilIface, .bool false]) w := run_typeAssert_lacksB Tryz.underlying45 (by kernel_rfl) (by kernel_rfl) v 20 w
theorem ta71_4 (v : Value) (w : World) : (Instr.typeAssert (.iface 71 v) 20 48 true).run Tryz.prog w = .ok (.tuple #[.iface 71 v, .bool true]) w := run_typeAssert_hasB Tryz.underlying48 (by kernel_rfl) v 20 w
theorem ta71_5 (v : Value) (w : World) : (Instr.typeAssert (.iface 71 v) 20 51 true).run Tryz.prog w = .ok (.tuple #[.iface 71 v, .bool true]) w := run_typeAssert_hasB Tryz.underlying51 (by kernel_rfl) v 20 w
set_option maxRecDepth 100000 in
theorem has71 (v : Value) (m : Int) (w : World) : Calls Tryz.prog 7 #[.iface 71 v, .int .i64 m] w (fun e w' => e = .returned (.bool (hasK 3 m)) ∧ w' = w) := by
  have a0 := ta71_0 v
  have a1 := ta71_1 v
  have a2 := ta71_2 v
  have a3 := ta71_3 v
  have a4 := ta71_4 v
  have a5 := ta71_5 v
  go_enter Tryz.func7, Tryz.ntmps7
  rcases meth_cases m with rfl | rfl | rfl | rfl | rfl | rfl | ⟨m0, m1, m2, m3, m4, m5⟩
  all_goals
    go_wp2_with fail
    go_ret
    exact ⟨by simp [hasK, *], rfl⟩
theorem ta73_0 (v : Value) (w : World) : (Instr.typeAssert (.iface 73 v) 20 36 true).run Tryz.prog w = .ok (.tuple #[.iface 73 v, .bool true]) w := run_typeAssert_hasB Tryz.underlying36 (by kernel_rfl) v 20 w
theorem ta73_1 (v : Value) (w : World) : (Instr.typeAssert (.iface 73 v) 20 39 true).run Tryz.prog w = .ok (.tuple #[.nilIface, .bool false]) w := run_typeAssert_lacksB Tryz.underlying39 (by kernel_rfl) (by kernel_rfl) v 20 w
theorem ta73_2 (v : Value) (w : World) : (Instr.typeAssert (.iface 73 v) 20 42 true).run Tryz.prog w = .ok (.tuple #[.nilIface, .bool false]) w := run_typeAssert_lacksB Tryz.underlying42 (by kernel_rfl) (by kernel_rfl) v 20 w
theorem ta73_3 (v : Value) (w : World) : (Instr.typeAssert (.iface 73 v) 20 45 true).run Tryz.prog w = .ok (.tuple #[.nilIface, .bool false]) w := run_typeAssert_lacksB Tryz.underlying45 (by kernel_rfl) (by kernel_rfl) v 20 w
theorem ta73_4 (v : Value) (w : World) : (Instr.typeAssert (.iface 73 v) 20 48 true).run Tryz.prog w = .ok (.tuple #[.iface 73 v, .bool true]) w := run_typeAssert_hasB Tryz.underlying48 (by kernel_rfl) v 20 w
theorem ta73_5 (v : Value) (w : World) : (Instr.typeAssert (.iface 73 v) 20 51 true).run Tryz.prog w = .ok (.tuple #[.nilIface, .bool false]) w := run_typeAssert_lacksB Tryz.underlying51 (by kernel_rfl) (by kernel_rfl) v 20 w
set_option maxRecDepth 100000 in
theorem has73 (v : Value) (m : Int) (w : World) : Calls Tryz.prog 7 #[.iface 73 v, .int .i64 m] w (fun e w' => e = .returned (.bool (hasK 4 m)) ∧ w' = w) := by
  have a0 := ta73_0 v
  have a1 := ta73_1 v
  have a2 := ta73_2 v
  have a3 := ta73_3 v
  have a4 := ta73_4 v
  have a5 := ta73_5 v
  go_enter Tryz.func7, Tryz.ntmps7
  rcases meth_cases m with rfl | rfl | rfl | rfl | rfl | rfl | ⟨m0, m1, m2, m3, m4, m5⟩
  all_goals
    go_wp2_with fail
    go_ret
    exact ⟨by simp [hasK, *], rfl⟩
theorem ta74_0 (v : Value) (w : World) : (Instr.typeAssert (.iface 74 v) 20 36 true).run Tryz.prog w = .ok (.tuple #[.iface 74 v, .bool true]) w := run_typeAssert_hasB Tryz.underlying36 (by kernel_rfl) v 20 w
theorem ta74_1 (v : Value) (w : World) : (Instr.typeAssert (.iface 74 v) 20 39 true).run Tryz.prog w = .ok (.tuple #[.iface 74 v, .bool true]) w := run_typeAssert_hasB Tryz.underlying39 (by kernel_rfl) v 20 w
theorem ta74_2 (v : Value) (w : World) : (Instr.typeAssert (.iface 74 v) 20 42 true).run Tryz.prog w = .ok (.tuple #[.nilIface, .bool false]) w := run_typeAssert_lacksB Tryz.underlying42 (by kernel_rfl) (by kernel_rfl) v 20 w
theorem ta74_3 (v : Value) (w : World) : (Instr.typeAssert (.iface 74 v) 20 45 true).run Tryz.prog w = .ok (.tuple #[.nilIface, .bool false]) w := run_typeAssert_lacksB Tryz.underlying45 (by kernel_rfl) (by kernel_rfl) v 20 w
theorem ta74_4 (v : Value) (w : World) : (Instr.typeAssert (.iface 74 v) 20 48 true).run Tryz.prog w = .ok (.tuple #[.iface 74 v, .bool true]) w := run_typeAssert_hasB Tryz.underlying48 (by kernel_rfl) v 20 w
theorem ta74_5 (v : Value) (w : World) : (Instr.typeAssert (.iface 74 v) 20 51 true).run Tryz.prog w = .ok (.tuple #[.nilIface, .bool false]) w := run_typeAssert_lacksB Tryz.underlying51 (by kernel_rfl) (by kernel_rfl) v 20 w
set_option maxRecDepth 100000 in
theorem has74 (v : Value) (m : Int) (w : World) : Calls Tryz.prog 7 #[.iface 74 v, .int .i64 m] w (fun e w' => e = .returned (.bool (hasK 5 m)) ∧ w' = w) := by
  have a0 := ta74_0 v
  have a1 := ta74_1 v
  have a2 := ta74_2 v
  have a3 := ta74_3 v
  have a4 := ta74_4 v
  have a5 := ta74_5 v
  go_enter Tryz.func7, Tryz.ntmps7
  rcases meth_cases m with rfl | rfl | rfl | rfl | rfl | rfl | ⟨m0, m1, m2, m3, m4, m5⟩
  all_goals
    go_wp2_with fail
    go_ret
    exact ⟨by simp [hasK, *], rfl⟩
theorem ta75_0 (v : Value) (w : World) : (Instr.typeAssert (.iface 75 v) 20 36 true).run Tryz.prog w = .ok (.tuple #[.nilIface, .bool false]) w := run_typeAssert_lacksB Tryz.underlying36 (by kernel_rfl) (by kernel_rfl) v 20 w
theorem ta75_1 (v : Value) (w : World) : (Instr.typeAssert (.iface 75 v) 20 39 true).run Tryz.prog w = .ok (.tuple #[.nilIface, .bool false]) w := run_typeAssert_lacksB Tryz.underlying39 (by kernel_rfl) (by kernel_rfl) v 20 w
theorem ta75_2 (v : Value) (w : World) : (Instr.typeAssert (.iface 75 v) 20 42 true).run Tryz.prog w = .ok (.tuple #[.nilIface, .bool false]) w := run_typeAssert_lacksB Tryz.underlying42 (by kernel_rfl) (by kernel_rfl) v 20 w
theorem ta75_3 (v : Value) (w : World) : (Instr.typeAssert (.iface 75 v) 20 45 true).run Tryz.prog w = .ok (.tuple #[.nilIface, .bool false]) w := run_typeAssert_lacksB Tryz.underlying45 (by kernel_rfl) (by kernel_rfl) v 20 w
theorem ta75_4 (v : Value) (w : World) : (Instr.typeAssert (.iface 75 v) 20 48 true).run Tryz.prog w = .ok (.tuple #[.nilIface, .bool false]) w := run_typeAssert_lacksB Tryz.underlying48 (by kernel_rfl) (by kernel_rfl) v 20 w
theorem ta75_5 (v : Value) (w : World) : (Instr.typeAssert (.iface 75 v) 20 51 true).run Tryz.prog w = .ok (.tuple #[.nilIface, .bool false]) w := run_typeAssert_lacksB Tryz.underlying51 (by kernel_rfl) (by kernel_rfl) v 20 w
set_option maxRecDepth 100000 in
theorem has75 (v : Value) (m : Int) (w : World) : Calls Tryz.prog 7 #[.iface 75 v, .int .i64 m] w (fun e w' => e = .returned (.bool (hasK 6 m)) ∧ w' = w) := by
  have a0 := ta75_0 v
  have a1 := ta75_1 v
  have a2 := ta75_2 v
  have a3 := ta75_3 v
  have a4 := ta75_4 v
  have a5 := ta75_5 v
  go_enter Tryz.func7, Tryz.ntmps7
  rcases meth_cases m with rfl | rfl | rfl | rfl | rfl | rfl | ⟨m0, m1, m2, m3, m4, m5⟩
  all_goals
    go_wp2_with fail
    go_ret
    exact ⟨by simp [hasK, *], rfl⟩
theorem ta76_0 (v : Value) (w : World) : (Instr.typeAssert (.iface 76 v) 20 36 true).run Tryz.prog w = .ok (.tuple #[.iface 76 v, .bool true]) w := run_typeAssert_hasB Tryz.underlying36 (by kernel_rfl) v 20 w
theorem ta76_1 (v : Value) (w : World) : (Instr.typeAssert (.iface 76 v) 20 39 true).run Tryz.prog w = .ok (.tuple #[.nilIface, .bool false]) w := run_typeAssert_lacksB Tryz.underlying39 (by kernel_rfl) (by kernel_rfl) v 20 w
theorem ta76_2 (v : Value) (w : World) : (Instr.typeAssert (.iface 76 v) 20 42 true).run Tryz.prog w = .ok (.tuple #[.nilIface, .bool false]) w := run_typeAssert_lacksB Tryz.underlying42 (by kernel_rfl) (by kernel_rfl) v 20 w
theorem ta76_3 (v : Value) (w : World) : (Instr.typeAssert (.iface 76 v) 20 45 true).run Tryz.prog w = .ok (.tuple #[.nilIface, .bool false]) w := run_typeAssert_lacksB Tryz.underlying45 (by kernel_rfl) (by kernel_rfl) v 20 w
theorem ta76_4 (v : Value) (w : World) : (Instr.typeAssert (.iface 76 v) 20 48 true).run Tryz.prog w = .ok (.tuple #[.nilIface, .bool false]) w := run_typeAssert_lacksB Tryz.underlying48 (by kernel_rfl) (by kernel_rfl) v 20 w
theorem ta76_5 (v : Value) (w : World) : (Instr.typeAssert (.iface 76 v) 20 51 true).run Tryz.prog w = .ok (.tuple #[.nilIface, .bool false]) w := run_typeAssert_lacksB Tryz.underlying51 (by kernel_rfl) (by kernel_rfl) v 20 w
set_option maxRecDepth 100000 in
theorem has76 (v : Value) (m : Int) (w : World) : Calls Tryz.prog 7 #[.iface 76 v, .int .i64 m] w (fun e w' => e = .returned (.bool (hasK 7 m)) ∧ w' = w) := by
  have a0 := ta76_0 v
  have a1 := ta76_1 v
  have a2 := ta76_2 v
  have a3 := ta76_3 v
  have a4 := ta76_4 v
  have a5 := ta76_5 v
  go_enter Tryz.func7, Tryz.ntmps7
  rcases meth_cases m with rfl | rfl | rfl | rfl | rfl | rfl | ⟨m0, m1, m2, m3, m4, m5⟩
  all_goals
    go_wp2_with fail
    go_ret
    exact ⟨by simp [hasK, *], rfl⟩
theorem ta78_0 (v : Value) (w : World) : (Instr.typeAssert (.iface 78 v) 20 36 true).run Tryz.prog w = .ok (.tuple #[.iface 78 v, .bool true]) w := run_typeAssert_hasB Tryz.underlying36 (by kernel_rfl) v 20 w
theorem ta78_1 (v : Value) (w : World) : (Instr.typeAssert (.iface 78 v) 20 39 true).run Tryz.prog w = .ok (.tuple #[.nilIface, .bool false]) w := run_typeAssert_lacksB Tryz.underlying39 (by kernel_rfl) (by kernel_rfl) v 20 w
theorem ta78_2 (v : Value) (w : World) : (Instr.typeAssert (.iface 78 v) 20 42 true).run Tryz.prog w = .ok (.tuple #[.nilIface, .bool false]) w := run_typeAssert_lacksB Tryz.underlying42 (by kernel_rfl) (by kernel_rfl) v 20 w
theorem ta78_3 (v : Value) (w : World) : (Instr.typeAssert (.iface 78 v) 20 45 true).run Tryz.prog w = .ok (.tuple #[.nilIface, .bool false]) w := run_typeAssert_lacksB Tryz.underlying45 (by kernel_rfl) (by kernel_rfl) v 20 w
theorem ta78_4 (v : Value) (w : World) : (Instr.typeAssert (.iface 78 v) 20 48 true).run Tryz.prog w = .ok (.tuple #[.nilIface, .bool false]) w := run_typeAssert_lacksB Tryz.underlying48 (by kernel_rfl) (by kernel_rfl) v 20 w
theorem ta78_5 (v : Value) (w : World) : (Instr.typeAssert (.iface 78 v) 20 51 true).run Tryz.prog w = .ok (.tuple #[.nilIface, .bool false]) w := run_typeAssert_lacksB Tryz.underlying51 (by kernel_rfl) (by kernel_rfl) v 20 w
set_option maxRecDepth 100000 in
theorem has78 (v : Value) (m : Int) (w : World) : Calls Tryz.prog 7 #[.iface 78 v, .int .i64 m] w (fun e w' => e = .returned (.bool (hasK 8 m)) ∧ w' = w) := by
  have a0 := ta78_0 v
  have a1 := ta78_1 v
  have a2 := ta78_2 v
  have a3 := ta78_3 v
  have a4 := ta78_4 v
  have a5 := ta78_5 v
  go_enter Tryz.func7, Tryz.ntmps7
  rcases meth_cases m with rfl | rfl | rfl | rfl | rfl | rfl | ⟨m0, m1, m2, m3, m4, m5⟩
  all_goals
    go_wp2_with fail
    go_ret
    exact ⟨by simp [hasK, *], rfl⟩
theorem ta81_0 (v : Value) (w : World) : (Instr.typeAssert (.iface 81 v) 20 36 true).run Tryz.prog w = .ok (.tuple #[.iface 81 v, .bool true]) w := run_typeAssert_hasB Tryz.underlying36 (by kernel_rfl) v 20 w
theorem ta81_1 (v : Value) (w : World) : (Instr.typeAssert (.iface 81 v) 20 39 true).run Tryz.prog w = .ok (.tuple #[.nilIface, .bool false]) w := run_typeAssert_lacksB Tryz.underlying39 (by kernel_rfl) (by kernel_rfl) v 20 w
theorem ta81_2 (v : Value) (w : World) : (Instr.typeAssert (.iface 81 v) 20 42 true).run Tryz.prog w = .ok (.tuple #[.nilIface, .bool false]) w := run_typeAssert_lacksB Tryz.underlying42 (by kernel_rfl) (by kernel_rfl) v 20 w
theorem ta81_3 (v : Value) (w : World) : (Instr.typeAssert (.iface 81 v) 20 45 true).run Tryz.prog w = .ok (.tuple #[.nilIface, .bool false]) w := run_typeAssert_lacksB Tryz.underlying45 (by kernel_rfl) (by kernel_rfl) v 20 w
theorem ta81_4 (v : Value) (w : World) : (Instr.typeAssert (.iface 81 v) 20 48 true).run Tryz.prog w = .ok (.tuple #[.nilIface, .bool false]) w := run_typeAssert_lacksB Tryz.underlying48 (by kernel_rfl) (by kernel_rfl) v 20 w
theorem ta81_5 (v : Value) (w : World) : (Instr.typeAssert (.iface 81 v) 20 51 true).run Tryz.prog w = .ok (.tuple #[.nilIface, .bool false]) w := run_typeAssert_lacksB Tryz.underlying51 (by kernel_rfl) (by kernel_rfl) v 20 w
set_option maxRecDepth 100000 in
theorem has81 (v : Value) (m : Int) (w : World) : Calls Tryz.prog 7 #[.iface 81 v, .int .i64 m] w (fun e w' => e = .returned (.bool (hasK 9 m)) ∧ w' = w) := by
  have a0 := ta81_0 v
  have a1 := ta81_1 v
  have a2 := ta81_2 v
  have a3 := ta81_3 v
  have a4 := ta81_4 v
  have a5 := ta81_5 v
  go_enter Tryz.func7, Tryz.ntmps7
  rcases meth_cases m with rfl | rfl | rfl | rfl | rfl | rfl | ⟨m0, m1, m2, m3, m4, m5⟩
  all_goals
    go_wp2_with fail
    go_ret
    exact ⟨by simp [hasK, *], rfl⟩
theorem ta83_0 (v : Value) (w : World) : (Instr.typeAssert (.iface 83 v) 20 36 true).run Tryz.prog w = .ok (.tuple #[.nilIface, .bool false]) w := run_typeAssert_lacksB Tryz.underlying36 (by kernel_rfl) (by kernel_rfl) v 20 w
theorem ta83_1 (v : Value) (w : World) : (Instr.typeAssert (.iface 83 v) 20 39 true).run Tryz.prog w = .ok (.tuple #[.iface 83 v, .bool true]) w := run_typeAssert_hasB Tryz.underlying39 (by kernel_rfl) v 20 w
theorem ta83_2 (v : Value) (w : World) : (Instr.typeAssert (.iface 83 v) 20 42 true).run Tryz.prog w = .ok (.tuple #[.iface 83 v, .bool true]) w := run_typeAssert_hasB Tryz.underlying42 (by kernel_rfl) v 20 w
theorem ta83_3 (v : Value) (w : World) : (Instr.typeAssert (.iface 83 v) 20 45 true).run Tryz.prog w = .ok (.tuple #[.nilIface, .bool false]) w := run_typeAssert_lacksB Tryz.underlying45 (by kernel_rfl) (by kernel_rfl) v 20 w
theorem ta83_4 (v : Value) (w : World) : (Instr.typeAssert (.iface 83 v) 20 48 true).run Tryz.prog w = .ok (.tuple #[.nilIface, .bool false]) w := run_typeAssert_lacksB Tryz.underlying48 (by kernel_rfl) (by kernel_rfl) v 20 w
theorem ta83_5 (v : Value) (w : World) : (Instr.typeAssert (.iface 83 v) 20 51 true).run Tryz.prog w = .ok (.tuple #[.nilIface, .bool false]) w := run_typeAssert_lacksB Tryz.underlying51 (by kernel_rfl) (by kernel_rfl) v 20 w
set_option maxRecDepth 100000 in
theorem has83 (v : Value) (m : Int) (w : World) : Calls Tryz.prog 7 #[.iface 83 v, .int .i64 m] w (fun e w' => e = .returned (.bool (hasK 10 m)) ∧ w' = w) := by
  have a0 := ta83_0 v
  have a1 := ta83_1 v
  have a2 := ta83_2 v
  have a3 := ta83_3 v
  have a4 := ta83_4 v
  have a5 := ta83_5 v
  go_enter Tryz.func7, Tryz.ntmps7
  rcases meth_cases m with rfl | rfl | rfl | rfl | rfl | rfl | ⟨m0, m1, m2, m3, m4, m5⟩
  all_goals
    go_wp2_with fail
    go_ret
    exact ⟨by simp [hasK, *], rfl⟩
theorem ta84_0 (v : Value) (w : World) : (Instr.typeAssert (.iface 84 v) 20 36 true).run Tryz.prog w = .ok (.tuple #[.iface 84 v, .bool true]) w := run_typeAssert_hasB Tryz.underlying36 (by kernel_rfl) v 20 w
theorem ta84_1 (v : Value) (w : World) : (Instr.typeAssert (.iface 84 v) 20 39 true).run Tryz.prog w = .ok (.tuple #[.nilIface, .bool false]) w := run_typeAssert_lacksB Tryz.underlying39 (by kernel_rfl) (by kernel_rfl) v 20 w
theorem ta84_2 (v : Value) (w : World) : (Instr.typeAssert (.iface 84 v) 20 42 true).run Tryz.prog w = .ok (.tuple #[.iface 84 v, .bool true]) w := run_typeAssert_hasB Tryz.underlying42 (by kernel_rfl) v 20 w
theorem ta84_3 (v : Value) (w : World) : (Instr.typeAssert (.iface 84 v) 20 45 true).run Tryz.prog w = .ok (.tuple #[.iface 84 v, .bool true]) w := run_typeAssert_hasB Tryz.underlying45 (by kernel_rfl) v 20 w
theorem ta84_4 (v : Value) (w : World) : (Instr.typeAssert (.iface 84 v) 20 48 true).run Tryz.prog w = .ok (.tuple #[.nilIface, .bool false]) w := run_typeAssert_lacksB Tryz.underlying48 (by kernel_rfl) (by kernel_rfl) v 20 w
theorem ta84_5 (v : Value) (w : World) : (Instr.typeAssert (.iface 84 v) 20 51 true).run Tryz.prog w = .ok (.tuple #[.nilIface, .bool false]) w := run_typeAssert_lacksB Tryz.underlying51 (by kernel_rfl) (by kernel_rfl) v 20 w
set_option maxRecDepth 100000 in
theorem has84 (v : Value) (m : Int) (w : World) : Calls Tryz.prog 7 #[.iface 84 v, .int .i64 m] w (fun e w' => e = .returned (.bool (hasK 11 m)) ∧ w' = w) := by
  have a0 := ta84_0 v
  have a1 := ta84_1 v
  have a2 := ta84_2 v
  have a3 := ta84_3 v
  have a4 := ta84_4 v
  have a5 := ta84_5 v
  go_enter Tryz.func7, Tryz.ntmps7
  rcases meth_cases m with rfl | rfl | rfl | rfl | rfl | rfl | ⟨m0, m1, m2, m3, m4, m5⟩
  all_goals
    go_wp2_with fail
    go_ret
    exact ⟨by simp [hasK, *], rfl⟩
theorem ta88_0 (v : Value) (w : World) : (Instr.typeAssert (.iface 88 v) 20 36 true).run Tryz.prog w = .ok (.tuple #[.nilIface, .bool false]) w := run_typeAssert_lacksB Tryz.underlying36 (by kernel_rfl) (by kernel_rfl) v 20 w
theorem ta88_1 (v : Value) (w : World) : (Instr.typeAssert (.iface 88 v) 20 39 true).run Tryz.prog w = .ok (.tuple #[.nilIface, .bool false]) w := run_typeAssert_lacksB Tryz.underlying39 (by kernel_rfl) (by kernel_rfl) v 20 w
theorem ta88_2 (v : Value) (w : World) : (Instr.typeAssert (.iface 88 v) 20 42 true).run Tryz.prog w = .ok (.tuple #[.nilIface, .bool false]) w := run_typeAssert_lacksB Tryz.underlying42 (by kernel_rfl) (by kernel_rfl) v 20 w
theorem ta88_3 (v : Value) (w : World) : (Instr.typeAssert (.iface 88 v) 20 45 true).run Tryz.prog w = .ok (.tuple #[.nilIface, .bool false]) w := run_typeAssert_lacksB Tryz.underlying45 (by kernel_rfl) (by kernel_rfl) v 20 w
theorem ta88_4 (v : Value) (w : World) : (Instr.typeAssert (.iface 88 v) 20 48 true).run Tryz.prog w = .ok (.tuple #[.nilIface, .bool false]) w := run_typeAssert_lacksB Tryz.underlying48 (by kernel_rfl) (by kernel_rfl) v 20 w
theorem ta88_5 (v : Value) (w : World) : (Instr.typeAssert (.iface 88 v) 20 51 true).run Tryz.prog w = .ok (.tuple #[.nilIface, .bool false]) w := run_typeAssert_lacksB Tryz.underlying51 (by kernel_rfl) (by kernel_rfl) v 20 w
set_option maxRecDepth 100000 in
theorem has88 (v : Value) (m : Int) (w : World) : Calls Tryz.prog 7 #[.iface 88 v, .int .i64 m] w (fun e w' => e = .returned (.bool (hasK 13 m)) ∧ w' = w) := by
  have a0 := ta88_0 v
  have a1 := ta88_1 v
  have a2 := ta88_2 v
  have a3 := ta88_3 v
  have a4 := ta88_4 v
  have a5 := ta88_5 v
  go_enter Tryz.func7, Tryz.ntmps7
  rcases meth_cases m with rfl | rfl | rfl | rfl | rfl | rfl | ⟨m0, m1, m2, m3, m4, m5⟩
  all_goals
    go_wp2_with fail
    go_ret
    exact ⟨by simp [hasK, *], rfl⟩
end Go.Proofs.YtofpdhkdnbnobaaGreatDoor
