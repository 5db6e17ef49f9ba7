import Derived.Test.YtoninfccmonaiaaAskFit
import Derived.Laws.StructEq
import Derived.Deep.QuietTactic
import Derived.BigQuiet
import Derived.Outline
namespace Go.Proofs.Ytoninfccmonaiaa
open Go.RowKit

theorem bytes_ne {a b : ByteArray} (h : ¬ a = b) : ¬ a.toList = b.toList := by
  rw [ByteArray.toList_eq, ByteArray.toList_eq]
  intro e
  apply h
  obtain ⟨⟨x⟩⟩ := a
  obtain ⟨⟨y⟩⟩ := b
  simp at e
  rw [e]

theorem neq53 (x y : Ask) (w : World) : (binOp .neq 53 (.agg #[.int .i64 x.1, .int .i64 x.2.1, .string x.2.2]) (.agg #[.int .i64 y.1, .int .i64 y.2.1, .string y.2.2])).run Try.prog w = .ok (.bool (decide (x ≠ y))) w := by
  obtain ⟨xc, xu, xt⟩ := x
  obtain ⟨yc, yu, yt⟩ := y
  simp [go_sem]
  by_cases h1 : xc = yc
  · by_cases h2 : xu = yu
    · by_cases h3 : xt = yt
      · simp [h1, h2, h3]
      · simp [h1, h2, h3, bytes_ne h3]
    · simp [h1, h2]
  · simp [h1]

def likeA (xs ys : List Ask) (k : Nat) : Prop := ∀ j, j < k → xs[j]?.getD noAsk = ys[j]?.getD noAsk
theorem likeA_succ {xs ys : List Ask} {k : Nat} (h : likeA xs ys k) (u : xs[k]?.getD noAsk = ys[k]?.getD noAsk) : likeA xs ys (k + 1) := by
  intro j hj
  by_cases e : j = k
  · subst e; exact u
  · exact h j (by omega)
theorem eq_of_likeA {xs ys : List Ask} (hl : xs.length = ys.length) (h : likeA xs ys xs.length) : xs = ys := by
  apply List.ext_getElem hl
  intro i h1 h2
  have := h i h1
  simpa [h1, h2] using this
def eqA (n1 n2 : Int) (xs ys : List Ask) : Bool := decide (n1 = n2 ∧ xs = ys)

set_option maxHeartbeats 1000000 in
set_option maxRecDepth 100000 in
theorem askSame (n1 n2 : Int) (xs ys : List Ask) (a b : Option Addr) (n m ca cb : Nat) (w : World) (hx : Asks w a n ca xs) (hy : Asks w b m cb ys) :
    Calls Try.prog 20 #[.agg #[.int .i64 n1, .slice a n ca], .agg #[.int .i64 n2, .slice b m cb]] w (RV w (.bool (eqA n1 n2 xs ys))) := by
  have hlx := hx.len
  have hly := hy.len
  have HX := Lib.hid hlx; clear hlx
  have HY := Lib.hid hly; clear hly
  obtain ⟨hcap, hmax⟩ := hx.bounds
  obtain ⟨hcap2, hmax2⟩ := hy.bounds
  have hat := fun k (hk : k < n) => hx.at hk
  have HAT := Lib.hid hat; clear hat
  have hbt := fun k (hk : k < m) => hy.at hk
  have HBT := Lib.hid hbt; clear hbt
  clear hx hy
  by_cases hnn : n1 = n2
  · have hnb : (n1 != n2) = false := by simp [hnn]
    have HNN := Lib.hid hnn; clear hnn
    by_cases hnm : n = m
    · subst hnm
      go_enter Try.func20, Try.ntmps20
      go_wp2
      clear hnb
      obtain ⟨W0, hW0⟩ : ∃ W0, (w.alloc (Obj.cells #[Value.int .i64 n1, Value.slice a n ca] 37)).alloc (Obj.cells #[Value.int .i64 n2, Value.slice b n cb] 37) = W0 := ⟨_, rfl⟩
      have hB0 : Below w.heap.size w W0 := by rw [← hW0]; exact ((Below.refl _ _).alloc (Nat.le_refl _) _).alloc (by simp) _
      have hc0 : W0.cell? ⟨w.heap.size, 1, none⟩ = some (.slice a n ca) := by rw [← hW0]; simp
      have hc1 : W0.cell? ⟨w.heap.size + 1, 1, none⟩ = some (.slice b n cb) := by rw [← hW0]; simp
      rw [hW0]
      clear hW0
      have HB0 := Lib.hid hB0; clear hB0
      go_loopw [23] (fun t wr => ∃ i m : Nat, i ≤ n ∧ t = .int .i64 i ∧ wr = W0.drewN m ∧ likeA xs ys i) (fun t _ => n - (intOf t).toNat)
      case atStart => exact ⟨0, 0, Nat.zero_le _, rfl, rfl, fun j hj => by omega⟩
      case round =>
        obtain ⟨i, m, hi, rfl, rfl, hap⟩ := hrel
        have HAP := Lib.hid hap; clear hap
        by_cases hlt : i < n
        · obtain ⟨b1, off1, rfl, hb1, x0, x1, x2⟩ := HAT.out i hlt
          obtain ⟨b2, off2, rfl, hb2, y0, y1, y2⟩ := HBT.out i hlt
          have p0 := cellAt HB0.out x0
          have p1 := cellAt HB0.out x1
          have p2 := cellAt HB0.out x2
          have q0 := cellAt HB0.out y0
          have q1 := cellAt HB0.out y1
          have q2 := cellAt HB0.out y2
          clear x0 x1 x2 y0 y1 y2
          have hi0 : (0 : Int) ≤ (i : Int) ∧ (i : Int) < (n : Int) := by omega
          have hne := neq53 (xs[i]?.getD noAsk) (ys[i]?.getD noAsk)
          have hls := @likeA_succ xs ys i HAP.out
          have heq : xs = ys → xs[i]?.getD noAsk = ys[i]?.getD noAsk := fun e => by rw [e]
          generalize xs[i]?.getD noAsk = x at p0 p1 p2 hne hls heq
          generalize ys[i]?.getD noAsk = y at q0 q1 q2 hne hls heq
          have HLS := Lib.hid hls; clear hls
          have HEQ := Lib.hid heq; clear heq
          by_cases he : x = y
          · have hd : decide (x ≠ y) = false := by simp [he]
            rw [hd] at hne
            clear hd
            have HE := Lib.hid he; clear he
            go_wp2
            go_quiet (fail)
            go_wp2
            go_roundw
            case rel => exact ⟨i + 1, _, by omega, by go_num, rfl, HLS.out HE.out⟩
            case measure => simp [intOf]; omega
          · have hd : decide (x ≠ y) = true := by simp [he]
            rw [hd] at hne
            clear hd
            have HE := Lib.hid he; clear he
            go_wp2
            go_quiet (fail)
            go_wp2
            go_ret
            have hf : eqA n1 n2 xs ys = false := by unfold eqA; simp; exact fun _ h => HE.out (HEQ.out h)
            exact ⟨by rw [hf]; rfl, HB0.out.trans (below_drewN (below_drewN (Below.refl _ _) _) _)⟩
        · obtain rfl : i = n := by omega
          go_wp2
          go_ret
          have hf : eqA n1 n2 xs ys = true := by unfold eqA; simp; exact ⟨HNN.out, eq_of_likeA (by rw [HX.out, HY.out]) (by rw [HX.out]; exact HAP.out)⟩
          exact ⟨by rw [hf]; rfl, HB0.out.trans (below_drewN (Below.refl _ _) _)⟩
    · have hf : eqA n1 n2 xs ys = false := by unfold eqA; simp; exact fun _ h => hnm (by rw [← HX.out, ← HY.out, h])
      rw [hf]
      clear hf
      have hnb2 : decide (n = m) = false := by simpa using hnm
      go_enter Try.func20, Try.ntmps20
      go_wp2
      go_ret
      exact ⟨rfl, ((Below.refl _ _).alloc (Nat.le_refl _) _).alloc (by simp) _⟩
  · have hnb : (n1 != n2) = true := by simp [hnn]
    have hf : eqA n1 n2 xs ys = false := by unfold eqA; simp [hnn]
    rw [hf]
    clear hf hnn
    go_enter Try.func20, Try.ntmps20
    go_wp2
    go_ret
    exact ⟨rfl, ((Below.refl _ _).alloc (Nat.le_refl _) _).alloc (by simp) _⟩
end Go.Proofs.Ytoninfccmonaiaa
