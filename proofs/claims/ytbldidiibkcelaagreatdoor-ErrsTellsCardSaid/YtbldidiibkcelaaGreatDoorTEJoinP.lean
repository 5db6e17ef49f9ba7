/-
  ErrsJoins: what a row of errors comes to (plain). Not a statement of the seat.
-/
import Derived.Test.YtbldidiibkcelaaGreatDoorTERWalk
import Derived.Test.YtbldidiibkcelaaGreatDoorTECopy
import Derived.Test.YtbldidiibkcelaaGreatDoorTEBack
namespace Go.Proofs.YtbldidiibkcelaaGreatDoor
open Go.RowKit

theorem sameM_refl (f : Fo) : sameM f f = true := (sameM_eq f f).2 rfl
theorem sameDt_refl (b : Dt) : sameDt b b = true := by
  unfold sameDt headM
  simp [sameM_refl]
theorem esameM_refl : ∀ f : Eo, esameM f f = true
  | .nil => rfl
  | .cons k i c t b cs ks rest => by
    rw [esameM, esameM_refl ks, esameM_refl rest, sameDt_refl]
    simp
theorem esame1_refl (k i c : Int) (t : Bs) (b : Dt) (cs : List Int) (kids : Eo) : esame1 k i c t b cs kids k i c t b cs kids = true := by
  unfold esame1
  rw [sameDt_refl, esameM_refl]
  simp
theorem okE.rng {e : Et} (h : okE e) : 0 ≤ e.k ∧ e.k ≤ 10 := by
  have h3 := h.2.2.1
  unfold rright1 at h3
  rw [Bool.and_eq_true] at h3
  exact (fit_num h3.1).1
theorem okE.body {e : Et} (h : okE e) : e.k = 5 → okB e.b := by
  have h3 := h.2.2.1
  unfold rright1 at h3
  rw [Bool.and_eq_true] at h3
  exact (fit_num h3.1).2.2.1
theorem ErAt.lt {S : Nat → Prop} {w : World} {e : Et} {bl : Option Addr} {bn bc : Nat} {cl : Option Addr} {cn cc : Nat} {l : Option Addr} {n cap : Nat} (h : ErAt S w e bl bn bc cl cn cc l n cap) : ErAt (fun x => x < w.heap.size) w e bl bn bc cl cn cc l n cap :=
  h.same (fun _ _ _ => rfl) (fun _ _ hl => hl)
end Go.Proofs.YtbldidiibkcelaaGreatDoor

