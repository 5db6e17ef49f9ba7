/-
  Walks of the document's Fit and Knows, and of the law's 'same'. Not a statement of the seat.
-/
import Derived.Test.YtoninfccmonaiaaSeen
import Derived.Deep.QuietTactic
import Derived.BigQuiet
import Derived.WalkSmall
namespace Go.Proofs.Ytoninfccmonaiaa
open Go.RowKit

/-- no two of the first i are alike -/
def apartTo (zs : List Int) (i : Nat) : Prop := ∀ j, j < i → ∀ k, k < j → zs[k]?.getD 0 ≠ zs[j]?.getD 0
/-- none of the first k is like member i -/
def unlikeTo (zs : List Int) (i k : Nat) : Prop := ∀ j, j < k → zs[j]?.getD 0 ≠ zs[i]?.getD 0
theorem apartTo_succ {zs : List Int} {i : Nat} (h : apartTo zs i) (u : unlikeTo zs i i) : apartTo zs (i + 1) := by
  intro j hj k hk
  by_cases e : j = i
  · subst e; exact u k hk
  · exact h j (by omega) k hk
theorem unlikeTo_succ {zs : List Int} {i k : Nat} (h : unlikeTo zs i k) (u : zs[k]?.getD 0 ≠ zs[i]?.getD 0) : unlikeTo zs i (k + 1) := by
  intro j hj
  by_cases e : j = k
  · subst e; exact u
  · exact h j (by omega)
def FitP (zs : List Int) (size : Int) : Prop := 1 ≤ size ∧ size ≤ 4096 ∧ (zs.length : Int) ≤ size ∧ apartTo zs zs.length
def fitB (zs : List Int) (size : Int) : Bool :=
  decide (1 ≤ size) && decide (size ≤ 4096) && decide ((zs.length : Int) ≤ size) && (List.range zs.length).all fun j => (List.range j).all fun k => zs[k]?.getD 0 != zs[j]?.getD 0
theorem fitB_true {zs : List Int} {size : Int} : fitB zs size = true ↔ FitP zs size := by
  unfold fitB FitP apartTo
  simp only [Bool.and_eq_true, decide_eq_true_eq, List.all_eq_true, List.mem_range, bne_iff_ne, ne_eq]
  exact ⟨fun ⟨⟨⟨a, b⟩, c⟩, d⟩ => ⟨a, b, c, d⟩, fun ⟨a, b, c, d⟩ => ⟨⟨⟨a, b⟩, c⟩, d⟩⟩
theorem fitB_false {zs : List Int} {size : Int} (h : ¬ FitP zs size) : fitB zs size = false := by
  rw [← fitB_true] at h
  simpa using h

set_option maxHeartbeats 1000000 in
theorem fit (zs : List Int) (size : Int) (a : Option Addr) (n cap : Nat) (w : World) (hz : Ints w a n cap zs) :
    Calls Try.prog 8 #[.agg #[.slice a n cap], .int .i64 size] w (RB w (.bool (fitB zs size))) := by
  have hlen := hz.len
  have HL := Lib.hid hlen; clear hlen
  obtain ⟨hcap, hmax⟩ := hz.bounds
  have hat := fun k (hk : k < n) => hz.at hk
  have HAT := Lib.hid hat; clear hat
  clear hz
  by_cases hs : (1 ≤ size ∧ size ≤ 4096) ∧ (n : Int) ≤ size
  · obtain ⟨⟨hs1, hs2⟩, hs3⟩ := hs
    have hb1 : decide (size < 1) = false := by simpa using hs1
    have hb2 : decide (4096 < size) = false := by simpa using hs2
    have hb3 : decide (size < (n : Int)) = false := by simpa using hs3
    go_enter Try.func8, Try.ntmps8
    go_wp2
    clear hb1 hb2 hb3
    obtain ⟨W0, hW0⟩ : ∃ W0, w.alloc (Obj.cells #[Value.slice a n cap] 24) = W0 := ⟨_, rfl⟩
    have hB0 : Below w.heap.size w W0 := by rw [← hW0]; exact (Below.refl _ _).alloc (Nat.le_refl _) _
    have hc0 : W0.cell? ⟨w.heap.size, 0, none⟩ = some (.slice a n cap) := by rw [← hW0]; simp
    rw [hW0]
    clear hW0
    have HB0 := Lib.hid hB0; clear hB0
    go_loopw [23] (fun t wr => ∃ i m : Nat, i ≤ n ∧ t = .int .i64 i ∧ wr = W0.drewN m ∧ apartTo zs i) (fun t _ => n - (intOf t).toNat)
    case atStart => exact ⟨0, 0, Nat.zero_le _, rfl, rfl, fun j hj => by omega⟩
    case round =>
      obtain ⟨i, m, hi, rfl, rfl, hap⟩ := hrel
      have HAP := Lib.hid hap; clear hap
      by_cases hlt : i < n
      · obtain ⟨b, off, rfl, hb, hci⟩ := HAT.out i hlt
        have hci' : W0.cell? ⟨b, off + i, none⟩ = some (.int .i64 (zs[i]?.getD 0)) := (HB0.out.cell (p := ⟨b, off + i, none⟩) hb).trans hci
        clear hci
        go_wp2
        go_loopw [6] (fun t wr => ∃ k m : Nat, k ≤ i ∧ t = .int .i64 k ∧ wr = W0.drewN m ∧ unlikeTo zs i k) (fun t _ => i - (intOf t).toNat)
        case atStart => exact ⟨0, m, Nat.zero_le _, rfl, rfl, fun j hj => by omega⟩
        case round =>
          obtain ⟨k, m2, hk, rfl, rfl, hun⟩ := hrel
          have HUN := Lib.hid hun; clear hun
          by_cases hlt2 : k < i
          · obtain ⟨b', off', e', hb', hck⟩ := HAT.out k (by omega)
            cases e'
            have hck' : W0.cell? ⟨b, off + k, none⟩ = some (.int .i64 (zs[k]?.getD 0)) := (HB0.out.cell (p := ⟨b, off + k, none⟩) hb).trans hck
            clear hck
            have hk0 : (0 : Int) ≤ (k : Int) ∧ (k : Int) < (n : Int) := by omega
            have hi0 : (0 : Int) ≤ (i : Int) ∧ (i : Int) < (n : Int) := by omega
            by_cases he : zs[k]?.getD 0 = zs[i]?.getD 0
            · have hbe : (zs[k]?.getD 0 == zs[i]?.getD 0) = true := by simp [he]
              have HE := Lib.hid he; clear he
              go_wp2
              go_quiet (fail)
              go_wp2
              go_ret
              have hf : fitB zs size = false := fitB_false (fun h => h.2.2.2 i (by rw [HL.out]; exact hlt) k hlt2 HE.out)
              exact ⟨by rw [hf]; rfl, HB0.out.trans (below_drewN (below_drewN (Below.refl _ _) _) _)⟩
            · have hbe : (zs[k]?.getD 0 == zs[i]?.getD 0) = false := by simp [he]
              have HE := Lib.hid he; clear he
              go_wp2
              go_quiet (fail)
              go_wp2
              go_roundw
              case rel => exact ⟨k + 1, _, by omega, by go_num, rfl, unlikeTo_succ HUN.out HE.out⟩
              case measure => simp [intOf]; omega
          · obtain rfl : k = i := by omega
            go_wp2
            go_roundw
            case rel => exact ⟨k + 1, _, by omega, by go_num, rfl, apartTo_succ HAP.out HUN.out⟩
            case measure => simp [intOf]; omega
      · obtain rfl : i = n := by omega
        go_wp2
        go_ret
        have hf : fitB zs size = true := fitB_true.2 ⟨hs1, hs2, by rw [HL.out]; exact hs3, by rw [HL.out]; exact HAP.out⟩
        exact ⟨by rw [hf]; rfl, HB0.out.trans (below_drewN (Below.refl _ _) _)⟩
  · have hno : ¬ FitP zs size := fun h => hs ⟨⟨h.1, h.2.1⟩, by have := h.2.2.1; rw [HL.out] at this; exact this⟩
    have hf := fitB_false hno
    rw [hf]
    clear hno hf
    by_cases hs1 : 1 ≤ size
    · by_cases hs2 : size ≤ 4096
      · have hs3 : ¬ (n : Int) ≤ size := fun h => hs ⟨⟨hs1, hs2⟩, h⟩
        clear hs
        go_enter Try.func8, Try.ntmps8
        go_wp2
        go_ret
        exact ⟨rfl, (Below.refl _ _).alloc (Nat.le_refl _) _⟩
      · clear hs
        go_enter Try.func8, Try.ntmps8
        go_wp2
        go_ret
        exact ⟨rfl, (Below.refl _ _).alloc (Nat.le_refl _) _⟩
    · clear hs
      go_enter Try.func8, Try.ntmps8
      go_wp2
      go_ret
      exact ⟨rfl, (Below.refl _ _).alloc (Nat.le_refl _) _⟩

/-- the first k are alike -/
def likeTo (xs ys : List Int) (k : Nat) : Prop := ∀ j, j < k → xs[j]?.getD 0 = ys[j]?.getD 0
theorem likeTo_succ {xs ys : List Int} {k : Nat} (h : likeTo xs ys k) (u : xs[k]?.getD 0 = ys[k]?.getD 0) : likeTo xs ys (k + 1) := by
  intro j hj
  by_cases e : j = k
  · subst e; exact u
  · exact h j (by omega)
theorem eq_of_likeTo {xs ys : List Int} (hl : xs.length = ys.length) (h : likeTo xs ys xs.length) : xs = ys := by
  apply List.ext_getElem hl
  intro i h1 h2
  have := h i h1
  simpa [h1, h2] using this
/-- are two lists the same? (a name of its own) -/
def eqB (xs ys : List Int) : Bool := decide (xs = ys)
theorem eqB_true {xs ys : List Int} (h : xs = ys) : eqB xs ys = true := by simp [eqB, h]
theorem eqB_false {xs ys : List Int} (h : ¬ xs = ys) : eqB xs ys = false := by simp [eqB, h]

set_option maxHeartbeats 1000000 in
theorem same (xs ys : List Int) (a b : Option Addr) (n m ca cb : Nat) (w : World) (hx : Ints w a n ca xs) (hy : Ints w b m cb ys) :
    Calls Try.prog 12 #[.agg #[.slice a n ca], .agg #[.slice b m cb]] w (RB w (.bool (eqB xs ys))) := by
  have hlx := hx.len
  have hly := hy.len
  have HX := Lib.hid hlx; clear hlx
  have HY := Lib.hid hly; clear hly
  obtain ⟨hcap, hmax⟩ := hx.bounds
  obtain ⟨hcap2, hmax2⟩ := hy.bounds
  have hat := fun k (hk : k < n) => hx.at hk
  have HAT := Lib.hid hat; clear hat
  have hbt := fun k (hk : k < m) => hy.at hk
  have HBT := Lib.hid hbt; clear hbt
  clear hx hy
  by_cases hnm : n = m
  · subst hnm
    go_enter Try.func12, Try.ntmps12
    go_wp2
    obtain ⟨W0, hW0⟩ : ∃ W0, (w.alloc (Obj.cells #[Value.slice a n ca] 24)).alloc (Obj.cells #[Value.slice b n cb] 24) = W0 := ⟨_, rfl⟩
    have hB0 : Below w.heap.size w W0 := by rw [← hW0]; exact ((Below.refl _ _).alloc (Nat.le_refl _) _).alloc (by simp) _
    have hc0 : W0.cell? ⟨w.heap.size, 0, none⟩ = some (.slice a n ca) := by rw [← hW0]; simp
    have hc1 : W0.cell? ⟨w.heap.size + 1, 0, none⟩ = some (.slice b n cb) := by rw [← hW0]; simp
    rw [hW0]
    clear hW0
    have HB0 := Lib.hid hB0; clear hB0
    go_loopw [16] (fun t wr => ∃ i m : Nat, i ≤ n ∧ t = .int .i64 i ∧ wr = W0.drewN m ∧ likeTo xs ys i) (fun t _ => n - (intOf t).toNat)
    case atStart => exact ⟨0, 0, Nat.zero_le _, rfl, rfl, fun j hj => by omega⟩
    case round =>
      obtain ⟨i, m, hi, rfl, rfl, hap⟩ := hrel
      have HAP := Lib.hid hap; clear hap
      by_cases hlt : i < n
      · obtain ⟨b1, off1, rfl, hb1, hci⟩ := HAT.out i hlt
        obtain ⟨b2, off2, rfl, hb2, hdi⟩ := HBT.out i hlt
        have hci' : W0.cell? ⟨b1, off1 + i, none⟩ = some (.int .i64 (xs[i]?.getD 0)) := (HB0.out.cell (p := ⟨b1, off1 + i, none⟩) hb1).trans hci
        have hdi' : W0.cell? ⟨b2, off2 + i, none⟩ = some (.int .i64 (ys[i]?.getD 0)) := (HB0.out.cell (p := ⟨b2, off2 + i, none⟩) hb2).trans hdi
        clear hci hdi
        have hi0 : (0 : Int) ≤ (i : Int) ∧ (i : Int) < (n : Int) := by omega
        by_cases he : xs[i]?.getD 0 = ys[i]?.getD 0
        · have hbe : (xs[i]?.getD 0 != ys[i]?.getD 0) = false := by simp [he]
          have HE := Lib.hid he; clear he
          go_wp2
          go_quiet (fail)
          go_wp2
          go_roundw
          case rel => exact ⟨i + 1, _, by omega, by go_num, rfl, likeTo_succ HAP.out HE.out⟩
          case measure => simp [intOf]; omega
        · have hbe : (xs[i]?.getD 0 != ys[i]?.getD 0) = true := by simp [he]
          have HE := Lib.hid he; clear he
          go_wp2
          go_quiet (fail)
          go_wp2
          go_ret
          have hf : eqB xs ys = false := eqB_false (fun h => HE.out (by rw [h]))
          exact ⟨by rw [hf]; rfl, HB0.out.trans (below_drewN (below_drewN (Below.refl _ _) _) _)⟩
      · obtain rfl : i = n := by omega
        go_wp2
        go_ret
        have hf : eqB xs ys = true := eqB_true (eq_of_likeTo (by rw [HX.out, HY.out]) (by rw [HX.out]; exact HAP.out))
        exact ⟨by rw [hf]; rfl, HB0.out.trans (below_drewN (Below.refl _ _) _)⟩
  · have hf : eqB xs ys = false := eqB_false (fun h => hnm (by rw [← HX.out, ← HY.out, h]))
    rw [hf]
    clear hf
    have hnb : decide (n = m) = false := by simpa using hnm
    go_enter Try.func12, Try.ntmps12
    go_wp2
    go_ret
    exact ⟨rfl, ((Below.refl _ _).alloc (Nat.le_refl _) _).alloc (by simp) _⟩

set_option maxHeartbeats 400000 in
theorem refKnows (zs : List Int) (id : Int) (a : Option Addr) (len cap : Nat) (w : World) (hz : Ints w a len cap zs) :
    Calls Try.prog 14 #[.agg #[.slice a len cap], .int .i64 id] w (RB w (.bool (memB zs id))) := by
  have hlen := hz.len
  have HL := Lib.hid hlen; clear hlen
  obtain ⟨hcap, hmax⟩ := hz.bounds
  have hat := fun k (hk : k < len) => hz.at hk
  have HAT := Lib.hid hat; clear hat
  clear hz
  go_enter Try.func14, Try.ntmps14
  go_wp2
  go_loop [6, 10] (fun _ i => ∃ k : Nat, k ≤ len ∧ i = .int .i64 k ∧ (∀ j, j < k → zs[j]?.getD 0 ≠ id)) (fun _ i => len - (intOf i).toNat)
  case atStart => exact ⟨0, Nat.zero_le _, rfl, fun j hj => by omega⟩
  case round =>
    obtain ⟨k, hk, rfl, hn⟩ := hrel
    have HN := Lib.hid hn; clear hn
    by_cases hlt : k < len
    · obtain ⟨b, off, rfl, hb, hc⟩ := HAT.out k hlt
      have hc' := cellNew (Obj.cells #[Value.slice (some ⟨b, off, none⟩) len cap] 24) hc
      clear hc
      by_cases he : zs[k]?.getD 0 = id
      · have hb1 : ((zs[k]?.getD 0) == id) = true := by simp [he]
        have HE := Lib.hid he; clear he
        go_wp2
        go_ret
        have hm : memB zs id = true := memB_iff.2 (by rw [← HE.out]; have : k < zs.length := by rw [HL.out]; exact hlt
                                                      simp [this])
        exact ⟨by rw [hm]; rfl, (Below.refl _ _).alloc (Nat.le_refl _) _⟩
      · have hb1 : ((zs[k]?.getD 0) == id) = false := by simp [he]
        have HE := Lib.hid he; clear he
        go_wp2
        go_round
        case rel => exact ⟨k + 1, by omega, by go_num, fun j hj => by
          by_cases e : j = k
          · subst e; exact HE.out
          · exact HN.out j (by omega)⟩
        case measure => simp [intOf]; omega
    · obtain rfl : k = len := by omega
      go_wp2
      go_ret
      have hm : memB zs id = false := memB_false (fun h => by
        obtain ⟨i, hi, e⟩ := List.mem_iff_getElem.1 h
        exact HN.out i (by rw [← HL.out]; exact hi) (by simp [hi, e]))
      exact ⟨by rw [hm]; rfl, (Below.refl _ _).alloc (Nat.le_refl _) _⟩
end Go.Proofs.Ytoninfccmonaiaa
