/-
  The program's reader: has, want (walks). Not a statement of the seat.
-/
import Derived.Test.YtofpdhkdnbnobaaDoorMem
import Derived.Test.YtofpdhkdnbnobaaDoorShelf
import Derived.Lib.Hide
import Derived.RegionTactic
import Derived.ChangeAlike
import Derived.Deep.QuietTactic
import Derived.BigQuiet
import Derived.Deep.Cut
namespace Go.Proofs.YtofpdhkdnbnobaaDoor
open Go.RowKit

/-- the reader's block: the text, the place, the depth, whether it is no value -/
def Rdr (w : World) (rb : Nat) (S : ByteArray) (a deep : Nat) (bad : Bool) : Prop := Blk w rb [.string S, .int .i64 a, .int .i64 deep, .bool bad]
def N1 (rb : Nat) : Nat → Prop := fun x => x = rb

theorem hasM_len {L t : Bs} {a : Nat} (h : hasM L a t = true) : a + t.length ≤ L.length ∨ t = [] := by
  unfold hasM at h
  have := (List.isPrefixOf_iff_prefix.1 h).length_le
  rw [List.length_drop] at this
  cases t with
  | nil => exact .inr rfl
  | cons c r => simp only [List.length_cons] at this ⊢; omega

theorem ext_data (S : ByteArray) (a : Nat) : (S.extract a S.size).data.toList = S.data.toList.drop a := by
  rw [Lib.extract_data, List.take_of_length_le]
  rw [List.length_drop, ← Lib.size_eq]
  exact Nat.le_refl _

theorem below_drewN (B : Nat) (w : World) : ∀ m, Below B w (w.drewN m)
  | 0 => Below.refl _ _
  | _ + 1 => ⟨rfl, rfl, rfl, Nat.le_refl _, fun _ _ => rfl⟩
theorem hasT {rb a deep : Nat} {S t : ByteArray} {w : World} (h : Rdr w rb S a deep false) (ha : a ≤ S.size) (hS : S.size ≤ 1000000000000) (ht : t.size ≤ 1000) (hv : hasM S.data.toList a t.data.toList = true) :
    Calls Tryd.prog 63 #[.pointer (some ⟨rb, 0, none⟩), .string t] w (fun e w' => e = .returned (.bool true) ∧ Rdr w' rb S (a + t.size) deep false ∧ Kept (N1 rb) w w') := by
  have c0 := h.cell 0 rfl
  have c1 := h.cell 1 rfl
  have c3 := h.cell 3 rfl
  have f1 := h.free 1 (by simp)
  have hp : ∀ w', Calls Tryd.prog 71 #[.string (S.extract a S.size), .string t] w' (fun e w'' => e = .returned (.bool true) ∧ w'' = w') := fun w' => by
    refine (Tryd.strings_HasPrefix _ _ w').mono ?_
    rintro e w'' ⟨rfl, rfl⟩
    exact ⟨by rw [ext_data, show Lib.hasPrefix (S.data.toList.drop a) t.data.toList = true from hv], rfl⟩
  have hR : ∀ m, Rdr ((w.drewN m).setCell ⟨rb, 1, none⟩ (.int .i64 ((a : Int) + (t.size : Int)))) rb S (a + t.size) deep false := fun m => by
    have := (h.below (below_drewN w.heap.size w m)).set (j := 1) (.int .i64 ((a : Int) + (t.size : Int)))
    simpa [Rdr] using this
  have hK : ∀ m, Kept (N1 rb) w ((w.drewN m).setCell ⟨rb, 1, none⟩ (.int .i64 ((a : Int) + (t.size : Int)))) := fun m => ((Kept.refl (N1 rb) w).calm (below_drewN _ _ m)).put (p := ⟨rb, 1, none⟩) _ (fun _ => rfl)
  clear h hv
  go_enter Tryd.func63, Tryd.ntmps63
  go_wp2_with fail
  go_quiet (exact Calls.quiet_of_same (hp _))
  go_wp2_with fail
  go_ret
  exact ⟨rfl, hR _, hK _⟩

theorem hasF {rb a deep : Nat} {S t : ByteArray} {w : World} (h : Rdr w rb S a deep false) (ha : a ≤ S.size) (hv : hasM S.data.toList a t.data.toList = false) :
    Calls Tryd.prog 63 #[.pointer (some ⟨rb, 0, none⟩), .string t] w (fun e w' => e = .returned (.bool false) ∧ ∃ m, w' = w.drewN m) := by
  have c0 := h.cell 0 rfl
  have c1 := h.cell 1 rfl
  have c3 := h.cell 3 rfl
  have hp : ∀ w', Calls Tryd.prog 71 #[.string (S.extract a S.size), .string t] w' (fun e w'' => e = .returned (.bool false) ∧ w'' = w') := fun w' => by
    refine (Tryd.strings_HasPrefix _ _ w').mono ?_
    rintro e w'' ⟨rfl, rfl⟩
    exact ⟨by rw [ext_data, show Lib.hasPrefix (S.data.toList.drop a) t.data.toList = false from hv], rfl⟩
  clear h hv
  go_enter Tryd.func63, Tryd.ntmps63
  go_wp2_with fail
  go_quiet (exact Calls.quiet_of_same (hp _))
  go_wp2_with fail
  go_ret
  exact ⟨rfl, _, rfl⟩

theorem hasB {rb a deep : Nat} {S t : ByteArray} {w : World} (h : Rdr w rb S a deep true) :
    Calls Tryd.prog 63 #[.pointer (some ⟨rb, 0, none⟩), .string t] w (fun e w' => e = .returned (.bool false) ∧ ∃ m, w' = w.drewN m) := by
  have c0 := h.cell 0 rfl
  have c1 := h.cell 1 rfl
  have c3 := h.cell 3 rfl
  clear h
  go_enter Tryd.func63, Tryd.ntmps63
  go_wp2_with fail
  go_quiet (fail)
  go_wp2_with fail
  go_ret
  exact ⟨rfl, _, rfl⟩

/-- want: what it leaves -/
theorem wantT {rb a deep : Nat} {S t : ByteArray} {w : World} (h : Rdr w rb S a deep false) (ha : a ≤ S.size) (hS : S.size ≤ 1000000000000) (ht : t.size ≤ 1000) (hv : hasM S.data.toList a t.data.toList = true) :
    Calls Tryd.prog 69 #[.pointer (some ⟨rb, 0, none⟩), .string t] w (fun e w' => e = .returned (.tuple #[]) ∧ Rdr w' rb S (a + t.size) deep false ∧ Kept (N1 rb) w w') := by
  go_enter Tryd.func69, Tryd.ntmps69
  go_wp2_with (go_at_call 63; refine (hasT h ha hS ht hv).mono ?_; rintro e w1 ⟨rfl, h1, k1⟩)
  go_end0
  exact ⟨rfl, h1, k1⟩

theorem want_put {rb a deep m : Nat} {S : ByteArray} {bad : Bool} {w : World} (h : Rdr w rb S a deep bad) : Rdr ((w.drewN m).setCell ⟨rb, 3, none⟩ (.bool true)) rb S a deep true ∧ Kept (N1 rb) w ((w.drewN m).setCell ⟨rb, 3, none⟩ (.bool true)) :=
  ⟨by simpa [Rdr] using (h.below (below_drewN w.heap.size w m)).set (j := 3) (.bool true), ((Kept.refl (N1 rb) w).calm (below_drewN _ _ m)).put (p := ⟨rb, 3, none⟩) _ (fun _ => rfl)⟩

theorem wantF {rb a deep : Nat} {S t : ByteArray} {w : World} {bad : Bool} (h : Rdr w rb S a deep bad) (ha : a ≤ S.size) (hv : bad = true ∨ hasM S.data.toList a t.data.toList = false) :
    Calls Tryd.prog 69 #[.pointer (some ⟨rb, 0, none⟩), .string t] w (fun e w' => e = .returned (.tuple #[]) ∧ Rdr w' rb S a deep true ∧ Kept (N1 rb) w w') := by
  have f3 := h.free 3 (by simp)
  have c3 := h.cell 3 rfl
  have hh : Calls Tryd.prog 63 #[.pointer (some ⟨rb, 0, none⟩), .string t] w (fun e w' => e = .returned (.bool false) ∧ ∃ m, w' = w.drewN m) := by
    cases bad
    · exact hasF h ha (hv.resolve_left (by simp))
    · exact hasB h
  have hp := fun m => want_put (m := m) h
  clear h hv
  go_enter Tryd.func69, Tryd.ntmps69
  go_wp2_with (go_at_call 63; refine hh.mono ?_; rintro e w1 ⟨rfl, m, rfl⟩)
  go_end0
  exact ⟨rfl, hp m⟩
end Go.Proofs.YtofpdhkdnbnobaaDoor
