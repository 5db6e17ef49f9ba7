/-
  The walk of the document's Fit of requests. Not a statement of the seat.
-/
import Derived.Test.YtoninfccmonaiaaAsks
import Derived.Test.YtoninfccmonaiaaProg
import Derived.WalkSpells
import Derived.WalkSmall
import Derived.OwnWalk
import Derived.LoopTactic
import Derived.Lib.Hide
namespace Go.Proofs.Ytoninfccmonaiaa
open Go.RowKit

theorem Try.info53 : (Try.prog.info? 53).map (fun i => (i.zero, i.size, i.bytes)) = some (some (.agg #[.int .i64 0, .int .i64 0, .string ByteArray.empty]), 3, 32) := by kernel_rfl

def RV (w : World) (v : Value) (e : Ending) (w' : World) : Prop := e = .returned v ∧ Below w.heap.size w w'

set_option maxHeartbeats 1000000 in
set_option maxRecDepth 100000 in
theorem askFit_head (next : Int) (l : List Ask) (a : Option Addr) (n cap : Nat) (w : World) (h : Asks w a n cap l) (hh : headFit next n = true) :
    Calls Try.prog 15 #[.agg #[.int .i64 next, .slice a n cap]] w (RV w (.bool (fitFrom next 0 l))) := by
  have hlen := h.len
  have HL := Lib.hid hlen; clear hlen
  obtain ⟨hcap, hmax⟩ := h.bounds
  have hat := fun k (hk : k < n) => h.at hk
  have HAT := Lib.hid hat; clear hat h
  unfold headFit at hh
  simp only [Bool.not_eq_true', Bool.or_eq_false_iff] at hh
  obtain ⟨⟨hb1, hb2⟩, hb3⟩ := hh
  have hb4 : decide ((1024 : Int) < (n : Int)) = false := by simp at hb3 ⊢; omega
  go_enter Try.func15, Try.ntmps15
  go_wp2
  clear hb1 hb2 hb3 hb4
  have HX := Lib.hid (Box.new w next a n cap 37)
  generalize hW0 : w.alloc (Obj.cells #[Value.int .i64 next, Value.slice a n cap] 37) = W0 at HX ⊢
  clear hW0
  go_loopw [3, 23] (fun la t wr => ∃ (k : Nat) (last : Int), k ≤ n ∧ t = .int .i64 k ∧ la = .int .i64 last ∧ fitFrom next 0 l = fitFrom next last (l.drop k) ∧ Box w next a n cap wr) (fun _ t _ => n - (intOf t).toNat)
  case atStart => exact ⟨0, 0, Nat.zero_le _, rfl, rfl, rfl, HX.out⟩
  case round =>
    obtain ⟨k, last, hk, rfl, rfl, heq, hbw⟩ := hrel
    have HBW := Lib.hid hbw
    obtain ⟨d0, d1, ds, _⟩ := hbw
    have HEQ := Lib.hid heq; clear heq
    by_cases hlt : k < n
    · obtain ⟨b, off, rfl, hb, e0, e1, e2⟩ := HAT.out k hlt
      have f0 := cellAt HBW.out.below e0
      have f1 := cellAt HBW.out.below e1
      have f2 := cellAt HBW.out.below e2
      clear e0 e1 e2
      have hst : fitFrom next last (l.drop k) = (okAsk next last (l[k]?.getD noAsk) && fitFrom next (l[k]?.getD noAsk).1 (l.drop (k + 1))) := by rw [drop_at l k (by rw [HL.out]; exact hlt)]; rfl
      unfold okAsk at hst
      generalize l[k]?.getD noAsk = x at f0 f1 f2 hst
      obtain ⟨xc, xu, xt⟩ := x
      dsimp only at f0 f1 f2 hst
      cases h1 : decide (xc ≤ last)
      · cases h2 : decide (next < xc)
        · cases h3 : decide (xu < 0)
          · cases h4 : decide ((1099511627776 : Int) < xu)
            · rw [h1, h2, h3, h4] at hst
              have HST := Lib.hid hst; clear hst
              go_wp2
              go_roundw
              case rel => exact ⟨k + 1, xc, by omega, by go_num, rfl, by rw [HEQ.out, HST.out]; simp, HBW.out.later ((Below.refl _ _).alloc (Nat.le_refl _) _)⟩
              case measure => simp [intOf]; omega
            · rw [h1, h2, h3, h4] at hst
              have HST := Lib.hid hst; clear hst
              go_wp2
              go_ret
              have hf : fitFrom next 0 l = false := by rw [HEQ.out, HST.out]; simp
              exact ⟨by rw [hf]; rfl, HBW.out.below.alloc (by omega) _⟩
          · rw [h1, h2, h3] at hst
            have HST := Lib.hid hst; clear hst
            go_wp2
            go_ret
            have hf : fitFrom next 0 l = false := by rw [HEQ.out, HST.out]; simp
            exact ⟨by rw [hf]; rfl, HBW.out.below.alloc (by omega) _⟩
        · rw [h1, h2] at hst
          have HST := Lib.hid hst; clear hst
          go_wp2
          go_ret
          have hf : fitFrom next 0 l = false := by rw [HEQ.out, HST.out]; simp
          exact ⟨by rw [hf]; rfl, HBW.out.below.alloc (by omega) _⟩
      · rw [h1] at hst
        have HST := Lib.hid hst; clear hst
        go_wp2
        go_ret
        have hf : fitFrom next 0 l = false := by rw [HEQ.out, HST.out]; simp
        exact ⟨by rw [hf]; rfl, HBW.out.below.alloc (by omega) _⟩
    · obtain rfl : k = n := by omega
      go_wp2
      go_ret
      have hf : fitFrom next 0 l = true := by rw [HEQ.out, List.drop_of_length_le (by rw [HL.out]; omega)]; rfl
      exact ⟨by rw [hf]; rfl, HBW.out.below⟩

set_option maxHeartbeats 1000000 in
set_option maxRecDepth 100000 in
theorem askFit_not (next : Int) (l : List Ask) (a : Option Addr) (n cap : Nat) (w : World) (h : Asks w a n cap l) (hh : headFit next n = false) :
    Calls Try.prog 15 #[.agg #[.int .i64 next, .slice a n cap]] w (RV w (.bool false)) := by
  obtain ⟨hcap, hmax⟩ := h.bounds
  clear h
  unfold headFit at hh
  cases h1 : decide (next < 0)
  · cases h2 : decide (4611686018427387904 < next)
    · rw [h1, h2] at hh
      have h4 : decide ((1024 : Int) < (n : Int)) = true := by simp at hh ⊢; omega
      clear hh
      go_enter Try.func15, Try.ntmps15
      go_wp2
      go_ret
      exact ⟨rfl, (Below.refl _ _).alloc (Nat.le_refl _) _⟩
    · clear hh
      go_enter Try.func15, Try.ntmps15
      go_wp2
      go_ret
      exact ⟨rfl, (Below.refl _ _).alloc (Nat.le_refl _) _⟩
  · clear hh
    go_enter Try.func15, Try.ntmps15
    go_wp2
    go_ret
    exact ⟨rfl, (Below.refl _ _).alloc (Nat.le_refl _) _⟩

theorem askFit_to {next : Int} {l : List Ask} {a : Option Addr} {n cap : Nat} {v : Bool} {w : World} (h : Asks w a n cap l) (hv : fitA next l = v) :
    Calls Try.prog 15 #[.agg #[.int .i64 next, .slice a n cap]] w (RV w (.bool v)) := by
  subst hv
  unfold fitA
  rw [h.len]
  cases hh : headFit next n with
  | false => simpa using askFit_not next l a n cap w h hh
  | true => simpa using askFit_head next l a n cap w h hh

/-- hands back a state that reads as next, L (n of them), in new memory -/
def StOut (w : World) (next : Int) (L : List Ask) (n : Nat) (e : Ending) (w' : World) : Prop :=
  ∃ a cap, e = .returned (.agg #[.int .i64 next, .slice a n cap]) ∧ Row w.heap.size w' 3 a n cap (askC L) ∧ Below w.heap.size w w'
/-- .. and an error's number -/
def StErr (w : World) (next : Int) (L : List Ask) (n : Nat) (er : Int) (e : Ending) (w' : World) : Prop :=
  ∃ a cap, e = .returned (.tuple #[.agg #[.int .i64 next, .slice a n cap], .int .i64 er]) ∧ Row w.heap.size w' 3 a n cap (askC L) ∧ Below w.heap.size w w'
/-- .. and a number, and an error's number -/
def StNum (w : World) (next : Int) (L : List Ask) (n : Nat) (k er : Int) (e : Ending) (w' : World) : Prop :=
  ∃ a cap, e = .returned (.tuple #[.agg #[.int .i64 next, .slice a n cap], .int .i64 k, .int .i64 er]) ∧ Row w.heap.size w' 3 a n cap (askC L) ∧ Below w.heap.size w w'
/-- .. and requests -/
def StGone (w : World) (next : Int) (L : List Ask) (n : Nat) (G : List Ask) (m : Nat) (e : Ending) (w' : World) : Prop :=
  ∃ a cap b capb, e = .returned (.tuple #[.agg #[.int .i64 next, .slice a n cap], .slice b m capb]) ∧ Row w.heap.size w' 3 a n cap (askC L) ∧ Row w.heap.size w' 3 b m capb (askC G) ∧ Below w.heap.size w w'

end Go.Proofs.Ytoninfccmonaiaa
