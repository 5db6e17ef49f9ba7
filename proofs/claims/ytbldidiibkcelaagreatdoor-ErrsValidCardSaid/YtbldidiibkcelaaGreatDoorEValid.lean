/-
  Valid of an error (walk). Not a statement of the seat.
-/
import Derived.Test.YtbldidiibkcelaaGreatDoorELook
namespace Go.Proofs.YtbldidiibkcelaaGreatDoor
open Go.RowKit

/-- the world behind Valid's boxes -/
def evw (w : World) (k i c : Int) (t : Bs) (b : Dt) (bl : Option Addr) (bn bc : Nat) (cl : Option Addr) (cn cc : Nat) (l : Option Addr) (n cap : Nat) : World :=
  ((ebox w k i c t b bl bn bc cl cn cc l n cap).alloc (.cells #[.int .i64 0] 3)).alloc (.cells #[.int .i64 0] 3)
theorem evw_facts (w : World) (k i c : Int) (t : Bs) (b : Dt) (bl : Option Addr) (bn bc : Nat) (cl : Option Addr) (cn cc : Nat) (l : Option Addr) (n cap : Nat) :
    Blk (evw w k i c t b bl bn bc cl cn cc l n cap) w.heap.size (V11 k i c t b bl bn bc cl cn cc l n cap) ∧ Blk (evw w k i c t b bl bn bc cl cn cc l n cap) (w.heap.size + 1) [.int .i64 ((0 : Nat) : Int)] ∧
      Blk (evw w k i c t b bl bn bc cl cn cc l n cap) (w.heap.size + 1 + 1) [.int .i64 ((0 : Nat) : Int)] ∧ Below w.heap.size w (evw w k i c t b bl bn bc cl cn cc l n cap) := by
  have hs : (ebox w k i c t b bl bn bc cl cn cc l n cap).heap.size = w.heap.size + 1 := by simp [ebox]
  have hb := ebox_below w k i c t b bl bn bc cl cn cc l n cap
  refine ⟨((ebox_blk w k i c t b bl bn bc cl cn cc l n cap).alloc _).alloc _, ?_, ?_, (hb.alloc hb.size _).alloc (by simp [hs]; omega) _⟩
  · have := (Blk.new (ebox w k i c t b bl bn bc cl cn cc l n cap) #[.int .i64 0] 3).alloc (.cells #[.int .i64 0] 3)
    rw [hs] at this
    simpa [evw] using this
  · have := Blk.new ((ebox w k i c t b bl bn bc cl cn cc l n cap).alloc (.cells #[.int .i64 0] 3)) #[.int .i64 0] 3
    rw [show ((ebox w k i c t b bl bn bc cl cn cc l n cap).alloc (.cells #[.int .i64 0] 3)).heap.size = w.heap.size + 1 + 1 by simp [hs]] at this
    simpa [evw] using this
def evalidM (e : Et) : Bool := (elook1 e.k e.i e.c e.t e.b e.cs e.l 1 0 0).1
set_option maxRecDepth 100000 in
theorem evalidN {S : Nat → Prop} {k i c : Int} {t : Bs} {b : Dt} {cs : List Int} {kids : Eo} {bl : Option Addr} {bn bc : Nat} {cl : Option Addr} {cn cc : Nat} {l : Option Addr} {n cap : Nat} {w : World} (hE : ErAt S w ⟨k, i, c, t, b, cs, kids⟩ bl bn bc cl cn cc l n cap)
    (hS : ∀ x, S x → x < w.heap.size) (hcs : cs.length ≤ 140737488355328) (hks : kids.small) :
    Calls Tryz.prog 18 #[vE k i c t b bl bn bc cl cn cc l n cap] w (fun r w' => r = .returned (.bool (evalidM ⟨k, i, c, t, b, cs, kids⟩)) ∧ Below w.heap.size w w') := by
  have HW := Lib.hid (evw_facts w k i c t b bl bn bc cl cn cc l n cap)
  have hC := elookG kids k i c t b cs bl bn bc cl cn cc l n cap S (w.heap.size + 1) (w.heap.size + 1 + 1) 0 0 1 (evw w k i c t b bl bn bc cl cn cc l n cap)
    (hE.same (fun x _ hlt => HW.out.2.2.2.block x hlt) (fun x hx _ => hx)) (fun x hx => Nat.lt_of_lt_of_le (hS x hx) HW.out.2.2.2.size) HW.out.2.1 HW.out.2.2.1 (by omega) (fun hx => by have := hS _ hx; omega) (fun hx => by have := hS _ hx; omega) (by omega) (by omega) (by omega) hcs hks
  unfold vE at hC ⊢
  have HC := Lib.hid hC
  clear hC hE hS hcs hks
  go_enter Tryz.func18, Tryz.ntmps18
  go_upto_region 2 with (fail)
  change Code.wp _ _ _ _ (evw w k i c t b bl bn bc cl cn cc l n cap)
  generalize evw w k i c t b bl bn bc cl cn cc l n cap = w1 at *
  have hx := HW.out.1
  have x0 := hx.cell 0 rfl; have x1 := hx.cell 1 rfl; have x2 := hx.cell 2 rfl; have x3 := hx.cell 3 rfl; have x4 := hx.cell 4 rfl; have x5 := hx.cell 5 rfl; have x6 := hx.cell 6 rfl; have x7 := hx.cell 7 rfl; have x8 := hx.cell 8 rfl; have x9 := hx.cell 9 rfl; have x10 := hx.cell 10 rfl
  clear hx
  go_wp2_with (go_at_call 55; refine HC.out.mono ?_; rintro e w4 ⟨rfl, hP4, hK4⟩)
  go_ret
  exact ⟨rfl, ((Kept.of' HW.out.2.2.2).trans (hK4.mono (fun _ _ h => h))).below (Nat.le_refl _) (fun x hx e => by rcases e with e | e <;> omega)⟩
end Go.Proofs.YtbldidiibkcelaaGreatDoor
