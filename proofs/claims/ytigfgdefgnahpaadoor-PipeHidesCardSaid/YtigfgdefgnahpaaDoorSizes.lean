/-
  The walks of sizes (the code's and the document's). Not a statement of the seat.
-/
import Derived.Test.YtigfgdefgnahpaaDoorSlices
import Derived.Test.YtigfgdefgnahpaaDoorProg
import Derived.WalkSpells
import Derived.WalkSmall
import Derived.OwnWalk
import Derived.LoopTactic
import Derived.Lib.Hide
import Derived.Outline
namespace Go.Proofs.YtigfgdefgnahpaaDoor
open Go.RowKit

def RV (w : World) (v : Value) (e : Ending) (w' : World) : Prop := e = .returned v ∧ Below w.heap.size w w'

def I3 (zs : List Int) : List Value := zs.map (Value.int .i64)
def Nums (w : World) (a : Option Addr) (n cap : Nat) (zs : List Int) : Prop := Rd w 1 a n cap (I3 zs)
theorem Nums.len {w : World} {a : Option Addr} {n cap : Nat} {zs : List Int} (h : Nums w a n cap zs) : zs.length = n := by
  have := Rd.len h; unfold I3 at this; simpa using this
theorem Nums.bounds {w : World} {a : Option Addr} {n cap : Nat} {zs : List Int} (h : Nums w a n cap zs) : n ≤ cap ∧ cap ≤ 9223372036854775807 := by
  have h1 := Rd.le h
  have h2 := Rd.max h
  unfold maxLen at h2
  exact ⟨h1, by omega⟩
theorem Nums.at {w : World} {a : Option Addr} {n cap : Nat} {zs : List Int} (h : Nums w a n cap zs) {k : Nat} (hk : k < n) :
    ∃ b off, a = some ⟨b, off, none⟩ ∧ b < w.heap.size ∧ w.cell? ⟨b, off + k, none⟩ = some (.int .i64 (zs[k]?.getD 0)) := by
  obtain ⟨b, off, ha, hb, hc⟩ := Rd.at1 h hk
  have hl := h.len
  refine ⟨b, off, ha, hb, ?_⟩
  rw [hc]
  have : k < zs.length := by omega
  simp [I3, this]

/-- are the numbers fit, and is one of them above 0 (or had one been)? -/
def sizesF : Bool → List Int → Bool × Bool
  | sb, [] => (true, sb)
  | sb, z :: r => if decide (z < 0) || decide (65535 < z) then (false, sb) else sizesF (sb || decide (0 < z)) r
def sizesB (zs : List Int) : Bool := let (ok, s) := sizesF (decide (zs.length = 0)) zs; ok && s && decide (zs.length ≤ 64)
theorem drop_z (l : List Int) (k : Nat) (h : k < l.length) : l.drop k = (l[k]?.getD 0) :: l.drop (k + 1) := by
  rw [List.drop_eq_getElem_cons h]; simp [h]

set_option maxHeartbeats 1000000 in
set_option maxRecDepth 100000 in
theorem sizesN (zs : List Int) (a : Option Addr) (n cap : Nat) (w : World) (h : Nums w a n cap zs) : Calls Tryd.prog 44 #[.slice a n cap] w (RV w (.bool (sizesB zs))) := by
  have hlen := h.len
  have HL := Lib.hid hlen; clear hlen
  obtain ⟨hcap, hmax⟩ := h.bounds
  have hat := fun k (hk : k < n) => h.at hk
  have HAT := Lib.hid hat; clear hat h
  obtain ⟨s0, hs0⟩ : ∃ s0 : Bool, ((n : Int) == 0) = s0 := ⟨_, rfl⟩
  have hz : decide (zs.length = 0) = s0 := by rw [HL.out, ← hs0]; by_cases e : n = 0 <;> simp [e]
  have HZ := Lib.hid hz; clear hz
  go_enter Tryd.func44, Tryd.ntmps44
  go_wp2
  clear hs0
  go_loopw [3, 11] (fun s t wr => ∃ (k : Nat) (sb : Bool), k ≤ n ∧ t = .int .i64 k ∧ s = .bool sb ∧ wr = w ∧ sizesF s0 zs = sizesF sb (zs.drop k)) (fun _ t _ => n - (intOf t).toNat)
  case atStart => exact ⟨0, s0, Nat.zero_le _, rfl, rfl, rfl, rfl⟩
  case round =>
    obtain ⟨k, sb, hk, rfl, rfl, rfl, heq⟩ := hrel
    have HEQ := Lib.hid heq; clear heq
    by_cases hlt : k < n
    · obtain ⟨b, off, rfl, hb, e0⟩ := HAT.out k hlt
      have hdr := drop_z zs k (by rw [HL.out]; exact hlt)
      generalize zs[k]?.getD 0 = z at e0 hdr
      have hst : sizesF sb (zs.drop k) = if decide (z < 0) || decide (65535 < z) then (false, sb) else sizesF (sb || decide (0 < z)) (zs.drop (k + 1)) := by rw [hdr]; rfl
      have HST := Lib.hid hst; clear hst hdr
      cases h1 : decide (z < 0)
      · cases h2 : decide (65535 < z)
        · have HST2 := Lib.hid (by have := HST.out; rw [h1, h2] at this; simpa using this : sizesF sb (zs.drop k) = sizesF (sb || decide (0 < z)) (zs.drop (k + 1)))
          clear HST
          cases h3 : decide (0 < z)
          · cases sb
            · go_wp2
              go_roundw
              case rel => exact ⟨k + 1, false, by omega, by go_num, by first | rfl | trivial, by first | rfl | trivial, by rw [HEQ.out, HST2.out, h3]; rfl⟩
              case measure => simp [intOf]; omega
            · go_wp2
              go_roundw
              case rel => exact ⟨k + 1, true, by omega, by go_num, by first | rfl | trivial, by first | rfl | trivial, by rw [HEQ.out, HST2.out]; rfl⟩
              case measure => simp [intOf]; omega
          · cases sb
            · go_wp2
              go_roundw
              case rel => exact ⟨k + 1, true, by omega, by go_num, by first | rfl | trivial, by first | rfl | trivial, by rw [HEQ.out, HST2.out, h3]; rfl⟩
              case measure => simp [intOf]; omega
            · go_wp2
              go_roundw
              case rel => exact ⟨k + 1, true, by omega, by go_num, by first | rfl | trivial, by first | rfl | trivial, by rw [HEQ.out, HST2.out]; rfl⟩
              case measure => simp [intOf]; omega
        · go_wp2
          go_ret
          have hf : sizesB zs = false := by unfold sizesB; rw [HZ.out, HEQ.out, HST.out, h1, h2]; rfl
          exact ⟨by rw [hf]; rfl, Below.refl _ _⟩
      · go_wp2
        go_ret
        have hf : sizesB zs = false := by unfold sizesB; rw [HZ.out, HEQ.out, HST.out, h1]; rfl
        exact ⟨by rw [hf]; rfl, Below.refl _ _⟩
    · obtain rfl : k = n := by omega
      have hf : sizesB zs = (sb && decide (k ≤ 64)) := by
        unfold sizesB
        rw [HZ.out, HEQ.out, List.drop_of_length_le (by rw [HL.out]; omega), HL.out]
        simp [sizesF]
      have HFF := Lib.hid hf; clear hf
      cases sb
      · go_wp2
        go_ret
        exact ⟨by rw [HFF.out]; rfl, Below.refl _ _⟩
      · cases h4 : decide ((k : Int) ≤ 64)
        · have h5 : decide (k ≤ 64) = false := by simp at h4 ⊢; omega
          have H5 := Lib.hid h5; clear h5
          go_wp2
          go_ret
          exact ⟨by rw [HFF.out, H5.out]; rfl, Below.refl _ _⟩
        · have h5 : decide (k ≤ 64) = true := by simp at h4 ⊢; omega
          have H5 := Lib.hid h5; clear h5
          go_wp2
          go_ret
          exact ⟨by rw [HFF.out, H5.out]; rfl, Below.refl _ _⟩
end Go.Proofs.YtigfgdefgnahpaaDoor
