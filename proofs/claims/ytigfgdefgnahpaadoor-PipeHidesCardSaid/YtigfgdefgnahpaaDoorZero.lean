/-
  The walks of zero (the code's) and none (the document's). Not a statement of the seat.
-/
import Derived.Test.YtigfgdefgnahpaaDoorSizesR
namespace Go.Proofs.YtigfgdefgnahpaaDoor
open Go.RowKit

def zeroB (n : Nat) (room : Int) (over reads : Bool) (bulk : Int) : Bool := ((n : Int) == 0) && (room == 0) && !over && !reads && (bulk == 0)

set_option maxHeartbeats 1000000 in
theorem zeroN (a : Option Addr) (n cap : Nat) (room : Int) (over reads : Bool) (bulk : Int) (w : World) :
    Calls Tryd.prog 46 #[.agg #[.slice a n cap, .int .i64 room, .bool over, .bool reads, .int .i64 bulk]] w (RV w (.bool (zeroB n room over reads bulk))) := by
  unfold zeroB
  cases h1 : ((n : Int) == 0)
  · go_enter Tryd.func46, Tryd.ntmps46
    go_wp2
    go_ret
    exact ⟨rfl, (Below.refl _ _).alloc (Nat.le_refl _) _⟩
  · cases h2 : (room == 0)
    · go_enter Tryd.func46, Tryd.ntmps46
      go_wp2
      go_ret
      exact ⟨rfl, (Below.refl _ _).alloc (Nat.le_refl _) _⟩
    · cases h3 : (bulk == 0) <;> cases over <;> cases reads
      all_goals
        go_enter Tryd.func46, Tryd.ntmps46
        go_wp2
        go_ret
        exact ⟨rfl, (Below.refl _ _).alloc (Nat.le_refl _) _⟩

set_option maxHeartbeats 1000000 in
theorem noneR (a : Option Addr) (n cap : Nat) (room : Int) (over reads : Bool) (bulk : Int) (w : World) :
    Calls Tryd.prog 40 #[.agg #[.slice a n cap, .int .i64 room, .bool over, .bool reads, .int .i64 bulk]] w (RV w (.bool (zeroB n room over reads bulk))) := by
  unfold zeroB
  cases h1 : ((n : Int) == 0)
  · go_enter Tryd.func40, Tryd.ntmps40
    go_wp2
    go_ret
    exact ⟨rfl, (Below.refl _ _).alloc (Nat.le_refl _) _⟩
  · cases h2 : (room == 0)
    · go_enter Tryd.func40, Tryd.ntmps40
      go_wp2
      go_ret
      exact ⟨rfl, (Below.refl _ _).alloc (Nat.le_refl _) _⟩
    · cases h3 : (bulk == 0) <;> cases over <;> cases reads
      all_goals
        go_enter Tryd.func40, Tryd.ntmps40
        go_wp2
        go_ret
        exact ⟨rfl, (Below.refl _ _).alloc (Nat.le_refl _) _⟩
end Go.Proofs.YtigfgdefgnahpaaDoor
