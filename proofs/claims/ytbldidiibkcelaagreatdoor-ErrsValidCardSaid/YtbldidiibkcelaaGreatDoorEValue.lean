/-
  value (walk): which error value an error is. Not a statement of the seat.
-/
import Derived.Test.YtbldidiibkcelaaGreatDoorEFits
namespace Go.Proofs.YtbldidiibkcelaaGreatDoor
open Go.RowKit

/-- an error's value: q its box, p what was made for it -/
def vErr (k c : Int) (t : Bs) (cl : Option Addr) (cn cc q p : Nat) : Value :=
  if k = 1 then .iface 101 (.agg #[.int .i64 c, .string ⟨t.toArray⟩]) else
  if k = 2 then .iface 89 (.pointer (some ⟨p, 0, none⟩)) else
  if k = 3 then .iface 102 (.pointer (some ⟨p, 0, none⟩)) else
  if k = 4 then .iface 103 (.pointer (some ⟨p, 0, none⟩)) else
  if k = 5 then .iface 106 (.agg #[.pointer (some ⟨q, 0, none⟩)]) else
  if k = 6 then .iface 107 (.slice cl cn cc) else
  if k = 7 then .iface 89 (.pointer none) else
  if k = 8 then .iface 108 (.pointer (some ⟨p, 0, none⟩)) else
  if k = 9 then .iface 109 (.pointer (some ⟨p, 0, none⟩)) else
  if k = 10 then .iface 110 (.agg #[.int .i64 c, .string ⟨t.toArray⟩]) else
  .nilIface
def isPt (k : Int) : Prop := k = 2 ∨ k = 3 ∨ k = 4 ∨ k = 8 ∨ k = 9
theorem ebox_size (w : World) (k i c : Int) (t : Bs) (b : Dt) (bl : Option Addr) (bn bc : Nat) (cl : Option Addr) (cn cc : Nat) (l : Option Addr) (n cap : Nat) : (ebox w k i c t b bl bn bc cl cn cc l n cap).heap.size = w.heap.size + 1 := by simp [ebox]
/-- the same cells in one more block, of type T -/
def pbox (T : Nat) (w : World) (k i c : Int) (t : Bs) (b : Dt) (bl : Option Addr) (bn bc : Nat) (cl : Option Addr) (cn cc : Nat) (l : Option Addr) (n cap : Nat) : World :=
  w.alloc (.cells #[.int .i64 k, .int .i64 i, .int .i64 c, .string ⟨t.toArray⟩, .int .i64 b.k, .int .i64 b.i, .int .u64 b.b, .string ⟨b.t.toArray⟩, .slice bl bn bc, .slice cl cn cc, .slice l n cap] T)
def EVP (k i c : Int) (t : Bs) (b : Dt) (bl : Option Addr) (bn bc : Nat) (cl : Option Addr) (cn cc : Nat) (l : Option Addr) (n cap : Nat) (w : World) (e : Ending) (w' : World) : Prop :=
  e = .returned (vErr k c t cl cn cc w.heap.size (w.heap.size + 1)) ∧ Below w.heap.size w w' ∧ Blk w' w.heap.size (V11 k i c t b bl bn bc cl cn cc l n cap) ∧ (isPt k → Blk w' (w.heap.size + 1) (V11 k i c t b bl bn bc cl cn cc l n cap))

set_option maxRecDepth 100000 in
set_option maxHeartbeats 8000000 in
theorem evalueN (k i c : Int) (t : Bs) (b : Dt) (bl : Option Addr) (bn bc : Nat) (cl : Option Addr) (cn cc : Nat) (l : Option Addr) (n cap : Nat) (w : World) :
    Calls Tryz.prog 50 #[vE k i c t b bl bn bc cl cn cc l n cap] w (EVP k i c t b bl bn bc cl cn cc l n cap w) := by
  have hA := ebox_blk w k i c t b bl bn bc cl cn cc l n cap
  have hBA := ebox_below w k i c t b bl bn bc cl cn cc l n cap
  have hz := ebox_size w k i c t b bl bn bc cl cn cc l n cap
  unfold vE
  go_enter Tryz.func50, Tryz.ntmps50
  go_upto_region 1 with (fail)
  change Code.wp _ _ _ _ (ebox w k i c t b bl bn bc cl cn cc l n cap)
  generalize ebox w k i c t b bl bn bc cl cn cc l n cap = w1 at *
  have c0 := hA.cell 0 rfl; have c1 := hA.cell 1 rfl; have c2 := hA.cell 2 rfl; have c3 := hA.cell 3 rfl; have c4 := hA.cell 4 rfl; have c5 := hA.cell 5 rfl; have c6 := hA.cell 6 rfl; have c7 := hA.cell 7 rfl; have c8 := hA.cell 8 rfl; have c9 := hA.cell 9 rfl; have c10 := hA.cell 10 rfl
  have HX := Lib.hid hA
  have HB := Lib.hid hBA
  have HZ := Lib.hid hz
  clear hA hBA hz
  by_cases h1 : k = 1
  · subst h1
    go_wp2_with fail
    go_ret
    exact ⟨rfl, HB.out, HX.out, fun h => by unfold isPt at h; omega⟩
  by_cases h2 : k = 2
  · subst h2
    go_wp2_with fail
    go_ret
    have hb := Blk.new w1 #[.int .i64 2, .int .i64 i, .int .i64 c, .string ⟨t.toArray⟩, .int .i64 b.k, .int .i64 b.i, .int .u64 b.b, .string ⟨b.t.toArray⟩, .slice bl bn bc, .slice cl cn cc, .slice l n cap] 119
    rw [HZ.out] at hb
    exact ⟨by rw [← HZ.out]; rfl, HB.out.alloc HB.out.size _, HX.out.alloc _, fun _ => hb⟩
  by_cases h3 : k = 3
  · subst h3
    go_wp2_with fail
    go_ret
    have hb := Blk.new w1 #[.int .i64 3, .int .i64 i, .int .i64 c, .string ⟨t.toArray⟩, .int .i64 b.k, .int .i64 b.i, .int .u64 b.b, .string ⟨b.t.toArray⟩, .slice bl bn bc, .slice cl cn cc, .slice l n cap] 120
    rw [HZ.out] at hb
    exact ⟨by rw [← HZ.out]; rfl, HB.out.alloc HB.out.size _, HX.out.alloc _, fun _ => hb⟩
  by_cases h4 : k = 4
  · subst h4
    go_wp2_with fail
    go_ret
    have hb := Blk.new w1 #[.int .i64 4, .int .i64 i, .int .i64 c, .string ⟨t.toArray⟩, .int .i64 b.k, .int .i64 b.i, .int .u64 b.b, .string ⟨b.t.toArray⟩, .slice bl bn bc, .slice cl cn cc, .slice l n cap] 121
    rw [HZ.out] at hb
    exact ⟨by rw [← HZ.out]; rfl, HB.out.alloc HB.out.size _, HX.out.alloc _, fun _ => hb⟩
  by_cases h5 : k = 5
  · subst h5
    go_wp2_with fail
    go_ret
    exact ⟨rfl, HB.out, HX.out, fun h => by unfold isPt at h; omega⟩
  by_cases h6 : k = 6
  · subst h6
    go_wp2_with fail
    go_ret
    exact ⟨rfl, HB.out, HX.out, fun h => by unfold isPt at h; omega⟩
  by_cases h7 : k = 7
  · subst h7
    go_wp2_with fail
    go_ret
    exact ⟨rfl, HB.out, HX.out, fun h => by unfold isPt at h; omega⟩
  by_cases h8 : k = 8
  · subst h8
    go_wp2_with fail
    go_ret
    have hb := Blk.new w1 #[.int .i64 8, .int .i64 i, .int .i64 c, .string ⟨t.toArray⟩, .int .i64 b.k, .int .i64 b.i, .int .u64 b.b, .string ⟨b.t.toArray⟩, .slice bl bn bc, .slice cl cn cc, .slice l n cap] 122
    rw [HZ.out] at hb
    exact ⟨by rw [← HZ.out]; rfl, HB.out.alloc HB.out.size _, HX.out.alloc _, fun _ => hb⟩
  by_cases h9 : k = 9
  · subst h9
    go_wp2_with fail
    go_ret
    have hb := Blk.new w1 #[.int .i64 9, .int .i64 i, .int .i64 c, .string ⟨t.toArray⟩, .int .i64 b.k, .int .i64 b.i, .int .u64 b.b, .string ⟨b.t.toArray⟩, .slice bl bn bc, .slice cl cn cc, .slice l n cap] 123
    rw [HZ.out] at hb
    exact ⟨by rw [← HZ.out]; rfl, HB.out.alloc HB.out.size _, HX.out.alloc _, fun _ => hb⟩
  by_cases h10 : k = 10
  · subst h10
    go_wp2_with fail
    go_ret
    exact ⟨rfl, HB.out, HX.out, fun h => by unfold isPt at h; omega⟩
  have HK := Lib.hid (And.intro h1 (And.intro h2 (And.intro h3 (And.intro h4 (And.intro h5 (And.intro h6 (And.intro h7 (And.intro h8 (And.intro h9 h10)))))))))
  have e1 : (k == 1) = false := by simpa using h1
  have e2 : (k == 2) = false := by simpa using h2
  have e3 : (k == 3) = false := by simpa using h3
  have e4 : (k == 4) = false := by simpa using h4
  have e5 : (k == 5) = false := by simpa using h5
  have e6 : (k == 6) = false := by simpa using h6
  have e7 : (k == 7) = false := by simpa using h7
  have e8 : (k == 8) = false := by simpa using h8
  have e9 : (k == 9) = false := by simpa using h9
  have e10 : (k == 10) = false := by simpa using h10
  clear h1 h2 h3 h4 h5 h6 h7 h8 h9 h10
  go_wp2_with fail
  go_ret
  obtain ⟨h1, h2, h3, h4, h5, h6, h7, h8, h9, h10⟩ := HK.out
  exact ⟨by simp [vErr, h1, h2, h3, h4, h5, h6, h7, h8, h9, h10], HB.out, HX.out, fun h => by unfold isPt at h; omega⟩
end Go.Proofs.YtbldidiibkcelaaGreatDoor
