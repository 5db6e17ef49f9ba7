import Derived.Test.YtoninfccmonaiaaAskFit
import Derived.Outline
namespace Go.Proofs.Ytoninfccmonaiaa
open Go.RowKit

def lateB (x : Ask) (now : Int) : Bool := decide (x.2.1 ≠ 0) && decide (x.2.1 < now)

theorem lateN (x : Ask) (now : Int) (w : World) : Calls Try.prog 31 #[.agg #[.int .i64 x.1, .int .i64 x.2.1, .string x.2.2], .int .i64 now] w (RV w (.bool (lateB x now))) := by
  obtain ⟨xc, xu, xt⟩ := x
  unfold lateB
  dsimp only
  by_cases hz : xu = 0
  · have h1 : (xu != 0) = false := by simp [hz]
    have h2 : decide (xu ≠ 0) = false := by simp [hz]
    rw [h2]
    clear hz h2
    go_enter Try.func31, Try.ntmps31
    go_wp2
    go_ret
    exact ⟨rfl, (Below.refl _ _).alloc (Nat.le_refl _) _⟩
  · have h1 : (xu != 0) = true := by simp [hz]
    have h2 : decide (xu ≠ 0) = true := by simp [hz]
    rw [h2]
    clear hz h2
    cases h3 : decide (xu < now)
    · go_enter Try.func31, Try.ntmps31
      go_wp2
      go_ret
      exact ⟨rfl, (Below.refl _ _).alloc (Nat.le_refl _) _⟩
    · go_enter Try.func31, Try.ntmps31
      go_wp2
      go_ret
      exact ⟨rfl, (Below.refl _ _).alloc (Nat.le_refl _) _⟩

theorem lateR (x : Ask) (now : Int) (w : World) : Calls Try.prog 32 #[.agg #[.int .i64 x.1, .int .i64 x.2.1, .string x.2.2], .int .i64 now] w (RV w (.bool (lateB x now))) := by
  obtain ⟨xc, xu, xt⟩ := x
  unfold lateB
  dsimp only
  by_cases hz : xu = 0
  · have h1 : (xu != 0) = false := by simp [hz]
    have h2 : decide (xu ≠ 0) = false := by simp [hz]
    rw [h2]
    clear hz h2
    go_enter Try.func32, Try.ntmps32
    go_wp2
    go_ret
    exact ⟨rfl, (Below.refl _ _).alloc (Nat.le_refl _) _⟩
  · have h1 : (xu != 0) = true := by simp [hz]
    have h2 : decide (xu ≠ 0) = true := by simp [hz]
    rw [h2]
    clear hz h2
    cases h3 : decide (xu < now)
    · go_enter Try.func32, Try.ntmps32
      go_wp2
      go_ret
      exact ⟨rfl, (Below.refl _ _).alloc (Nat.le_refl _) _⟩
    · go_enter Try.func32, Try.ntmps32
      go_wp2
      go_ret
      exact ⟨rfl, (Below.refl _ _).alloc (Nat.le_refl _) _⟩

def askVal (a : Ask) : Value := .agg #[.int .i64 a.1, .int .i64 a.2.1, .string a.2.2]
def putAll (m : List (Int × Value)) : List Ask → List (Int × Value)
  | [] => m
  | a :: r => putAll (putL a.1 (askVal a) m) r
theorem putAll_snoc (l : List Ask) (a : Ask) : ∀ m, putAll m (l ++ [a]) = putL a.1 (askVal a) (putAll m l) := by
  induction l with
  | nil => intro m; rfl
  | cons b r ih => intro m; simp only [List.cons_append, putAll, ih]
theorem take_at (l : List Ask) (k : Nat) (h : k < l.length) : l.take (k + 1) = l.take k ++ [l[k]?.getD noAsk] := by
  rw [List.take_add_one]; simp [h]

def MapPost (w : World) (m : List (Int × Value)) (e : Ending) (w' : World) : Prop :=
  ∃ r, e = .returned (.map (some r)) ∧ MapAt w' r m ∧ w.heap.size < r ∧ Below w.heap.size w w'

set_option maxHeartbeats 1000000 in
set_option maxRecDepth 100000 in
theorem waitingN (next : Int) (l : List Ask) (a : Option Addr) (n cap : Nat) (w : World) (h : Asks w a n cap l) :
    Calls Try.prog 29 #[.agg #[.int .i64 next, .slice a n cap]] w (MapPost w (putAll [] l)) := by
  have hlen := h.len
  have HL := Lib.hid hlen; clear hlen
  obtain ⟨hcap, hmax⟩ := h.bounds
  have hat := fun k (hk : k < n) => h.at hk
  have HAT := Lib.hid hat; clear hat h
  have hmm := @run_makeMap Try.prog
  go_enter Try.func29, Try.ntmps29
  go_wp2
  have HX := Lib.hid (Box.new w next a n cap 37)
  have HM := Lib.hid (MapAt.new (w.alloc (Obj.cells #[Value.int .i64 next, Value.slice a n cap] 37)))
  have HXX := Lib.hid (HX.out.later ((Below.refl _ _).alloc (Nat.le_refl _) (.map #[] 0)))
  simp only [World.size_alloc] at HM
  go_loopw [10] (fun t wr => ∃ (k : Nat), k ≤ n ∧ t = .int .i64 k ∧ MapAt wr (w.heap.size + 1) (putAll [] (l.take k)) ∧ Box w next a n cap wr) (fun t _ => n - (intOf t).toNat)
  case atStart => exact ⟨0, Nat.zero_le _, rfl, HM.out, HXX.out⟩
  case round =>
    clear HXX HM HX
    obtain ⟨k, hk, rfl, hm, hbw⟩ := hrel
    have HBW := Lib.hid hbw
    obtain ⟨d0, d1, ds, _⟩ := hbw
    have HMR := Lib.hid hm; clear hm
    by_cases hlt : k < n
    · obtain ⟨b, off, rfl, hb, e0, e1, e2⟩ := HAT.out k hlt
      have f0 := cellAt HBW.out.below e0
      have f1 := cellAt HBW.out.below e1
      have f2 := cellAt HBW.out.below e2
      clear e0 e1 e2
      have hta := take_at l k (by rw [HL.out]; exact hlt)
      generalize l[k]?.getD noAsk = x at f0 f1 f2 hta
      have HTA := Lib.hid hta; clear hta
      have hml := HMR.out.lt
      go_wp2_with (at_mapUpdate; go_must (refine wpList_update_L rfl _ _ _ 65 rfl 2 53 Try.underlying65 Try.underlying2 rfl (HMR.out.alloc _) rfl ?_; intro w' hm' hgr'; have HM' := Lib.hid hm'; have HG' := Lib.hid hgr'; clear hm' hgr'))
      go_roundw
      case rel => exact ⟨k + 1, by omega, by go_num, by rw [HTA.out, putAll_snoc]; exact HM'.out, HBW.out.laterF (by omega) (B := w.heap.size + 1) (((Below.refl _ _).alloc (by omega) _).grown HG'.out (by simp; omega) (fun k hk => by cases hk; omega))⟩
      case measure => simp [intOf]; omega
    · obtain rfl : k = n := by omega
      go_wp2
      go_ret
      have := HMR.out
      rw [List.take_of_length_le (by rw [HL.out]; omega)] at this
      exact ⟨_, rfl, this, by omega, HBW.out.below⟩

/-- What is appended is one element of some cells, laid for it just now. -/
theorem Src.oneRow {P : Program} {w : World} {size : Nat} {tx e' : TypeId} (hk : P.underlying tx = some (.slice e')) (news : List Value) (A : Array Value) (e : TypeId) {g : Nat} (hg : g = w.heap.size) (hA : A = news.toArray) (hl : news.length = size) (h1 : ∀ u ∈ news, u.oneCell' = true) : Src P size tx (.slice (some ⟨g, 0, none⟩) 1 1) 1 news (w.alloc (.cells A e)) := by
  subst hg
  subst hA
  refine Src.ofSlice _ hk _ 1 1 news (by omega) (fun j u hj => ?_) h1
  rw [Addr.add_lit]
  have hjl := (List.getElem?_eq_some_iff.1 hj).1
  simp [hj]
theorem askV_one (x : Ask) : ∀ u ∈ askV x, u.oneCell' = true := by
  intro u hu
  simp only [askV, List.mem_cons, List.mem_nil_iff, or_false] at hu
  rcases hu with rfl | rfl | rfl <;> rfl
theorem askC_snoc (l : List Ask) (x : Ask) : askC l ++ askV x = askC (l ++ [x]) := by simp [askC]
end Go.Proofs.Ytoninfccmonaiaa
