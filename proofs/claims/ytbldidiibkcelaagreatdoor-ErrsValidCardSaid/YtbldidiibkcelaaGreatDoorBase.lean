/-
  Small things of the data, for this seat. Not a statement of the seat.
-/
import Derived.Test.YtbldidiibkcelaaGreatDoorMem
import Derived.Test.YtbldidiibkcelaaGreatDoorProg
import Derived.Shelf.Strings.BuilderK
import Derived.Shelf.Small.Strs
import Derived.Shelf.Small.Wraps
import Derived.BigCall
import Derived.BigGuard
import Derived.Defers
import Derived.Lib.Hide
import Derived.Deep.Cut
import Derived.Deep.RegionHeld3
import Derived.Deep.QuietTactic
import Derived.WalkSpells
import Derived.WalkSmall
import Derived.StillTailTactics
import Derived.RegionTactic
import Derived.ChangeAlike
import Derived.BigQuiet
import Derived.Laws.IdiomStrings
import Derived.ScopeJumps
import Derived.WalkMore
namespace Go.Proofs.YtbldidiibkcelaaGreatDoor
open Go.RowKit

def N1 (rb : Nat) : Nat → Prop := fun x => x = rb
theorem below_drewN (B : Nat) (w : World) : ∀ m, Below B w (w.drewN m)
  | 0 => Below.refl _ _
  | _ + 1 => ⟨rfl, rfl, rfl, Nat.le_refl _, fun _ _ => rfl⟩
/-- the least number of which R holds -/
theorem exists_least {R : Nat → Prop} (h : ∃ n, R n) : ∃ n, R n ∧ ∀ m, R m → n ≤ m := by
  obtain ⟨n, hn⟩ := h
  induction n using Nat.strongRecOn with
  | _ n ih =>
    by_cases hm : ∃ m, m < n ∧ R m
    · obtain ⟨m, h1, h2⟩ := hm
      exact ih m h1 h2
    · exact ⟨n, hn, fun m h => by
        by_cases hl : m < n
        · exact absurd ⟨m, hl, h⟩ hm
        · omega⟩
open Classical in
noncomputable def least (R : Nat → Prop) : Nat := if h : ∃ n, R n then Classical.choose (exists_least h) else 0
theorem least_spec {R : Nat → Prop} (h : ∃ n, R n) : R (least R) := by
  unfold least
  rw [dif_pos h]
  exact (Classical.choose_spec (exists_least h)).1
theorem least_le {R : Nat → Prop} {n : Nat} (h : R n) : least R ≤ n := by
  unfold least
  rw [dif_pos ⟨n, h⟩]
  exact (Classical.choose_spec (exists_least ⟨n, h⟩)).2 n h
theorem datumInfo : (Tryz.prog.info? 25).map (fun i => (i.zero, i.size, i.bytes)) = some (some (.agg #[.int .i64 0, .int .i64 0, .int .u64 0, .string ⟨#[]⟩, .slice none 0 0]), 5, 64) := by kernel_rfl
def V5 (k i b : Int) (t : ByteArray) (l : Option Addr) (n c : Nat) : List Value := [.int .i64 k, .int .i64 i, .int .u64 b, .string t, .slice l n c]
theorem V5_one (k i b : Int) (t : ByteArray) (l : Option Addr) (n c : Nat) : ∀ u ∈ V5 k i b t l n c, u.oneCell' = true := by
  intro u hu
  simp only [V5, List.mem_cons, List.mem_nil_iff, or_false] at hu
  rcases hu with rfl | rfl | rfl | rfl | rfl <;> rfl
end Go.Proofs.YtbldidiibkcelaaGreatDoor
