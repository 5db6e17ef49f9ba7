/-
  number, its world told exactly. Not a statement of the seat.
-/
import Derived.Test.YtigfgdefgnahpaaDoorAsN
namespace Go.Proofs.YtigfgdefgnahpaaDoor
open Go.RowKit Go.Extern.Stop Go.Stop Go.Extern

set_option maxRecDepth 100000 in
theorem number0x (w : World) : Calls Tryd.prog 42 #[.nilIface] w (fun e w' => e = .returned (.int .i64 0) ∧ w' = w.alloc (.cells #[.int .i64 0] 33)) := by
  go_enter Tryd.func42, Tryd.ntmps42
  go_wp2_with fail
  refine (as_nil _ _).mono ?_
  rintro e w' ⟨rfl, rfl⟩
  go_wp2
  go_ret
  exact ⟨rfl, rfl⟩

def numW (e : Int) (w : World) : World :=
  ((((w.alloc (.cells #[.int .i64 e] 33)).alloc (.cells #[.pointer (some ⟨w.heap.size, 0, none⟩)] 141)).alloc (.cells #[.pointer (some ⟨2, 141, none⟩), .pointer (some ⟨w.heap.size + 1, 0, none⟩), .int .u64 150] 146)).alloc (.cells #[.pointer (some ⟨2, 141, none⟩), .pointer (some ⟨w.heap.size + 1, 0, none⟩), .int .u64 150] 146)).alloc (.cells #[.int .i64 e] 33)

set_option maxRecDepth 100000 in
theorem numberEx (e : Int) (w : World) (hg : w.cell? ⟨1, 0, none⟩ = some (.iface 157 (.agg #[.pointer (some ⟨2, 68, none⟩)]))) : Calls Tryd.prog 42 #[.iface 33 (.int .i64 e)] w (fun ev w' => ev = .returned (.int .i64 e) ∧ w' = numW e w) := by
  have hlt := World.block_lt_of_cell? _ _ hg
  have hg2 : (w.alloc (.cells #[.int .i64 0] 33)).cell? ⟨1, 0, none⟩ = some (.iface 157 (.agg #[.pointer (some ⟨2, 68, none⟩)])) := cellNew _ hg
  have hq := Blk.new w #[.int .i64 0] 33
  have hc := hq.cell 0 rfl
  have hf := hq.free 0 (by simp)
  go_enter Tryd.func42, Tryd.ntmps42
  go_wp2_with fail
  refine (as_hit e ⟨w.heap.size, 0, none⟩ _ (w.alloc (.cells #[.int .i64 0] 33)) hg2 hc hf).mono ?_
  rintro e2 w' ⟨rfl, rfl⟩
  go_wp2
  go_ret
  refine ⟨rfl, ?_⟩
  unfold numW
  simp
end Go.Proofs.YtigfgdefgnahpaaDoor
