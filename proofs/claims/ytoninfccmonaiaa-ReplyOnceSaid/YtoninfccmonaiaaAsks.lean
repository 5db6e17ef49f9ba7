/-
  Requests that wait, as lists: how they lie in memory; the document's answers as plain functions. Not a statement of the seat.
-/
import Derived.Test.YtoninfccmonaiaaSlices
import Derived.Test.YtoninfccmonaiaaMaps
namespace Go.Proofs.Ytoninfccmonaiaa
open Go.RowKit

/-- a request: its number, until when it waits, its topic -/
abbrev Ask := Int × Int × ByteArray
def noAsk : Ask := (0, 0, ByteArray.empty)
def askV (a : Ask) : List Value := [.int .i64 a.1, .int .i64 a.2.1, .string a.2.2]
def askC (l : List Ask) : List Value := l.flatMap askV
theorem askC_length (l : List Ask) : (askC l).length = l.length * 3 := by
  induction l with
  | nil => rfl
  | cons a r ih => simp only [askC, List.flatMap_cons, List.length_append] at *; rw [ih]; simp [askV]; omega
theorem askC_append (a b : List Ask) : askC (a ++ b) = askC a ++ askC b := by simp [askC]
theorem askC_one (l : List Ask) : ∀ u ∈ askC l, u.oneCell' = true := by
  intro u hu
  obtain ⟨a, _, h⟩ := List.mem_flatMap.1 hu
  simp only [askV, List.mem_cons, List.mem_nil_iff, or_false] at h
  rcases h with rfl | rfl | rfl <;> rfl
theorem askC_get (l : List Ask) : ∀ (k i : Nat), k < l.length → i < 3 → (askC l)[k * 3 + i]? = (askV (l[k]?.getD noAsk))[i]? := by
  induction l with
  | nil => intro k i h; simp at h
  | cons a r ih =>
    intro k i hk hi
    cases k with
    | zero =>
      simp only [askC, List.flatMap_cons, Nat.zero_mul, Nat.zero_add, List.getElem?_cons_zero, Option.getD_some]
      rw [List.getElem?_append_left (by simp [askV]; exact hi)]
    | succ k =>
      simp only [List.getElem?_cons_succ]
      rw [← ih k i (by simpa using hk) hi]
      simp only [askC, List.flatMap_cons]
      rw [List.getElem?_append_right (by simp [askV]; omega)]
      simp only [askV, List.length_cons, List.length_nil]
      congr 1
      omega

/-- The slice value reads as these requests. -/
def Asks (w : World) (a : Option Addr) (n cap : Nat) (l : List Ask) : Prop := Rd w 3 a n cap (askC l)
theorem Asks.len {w : World} {a : Option Addr} {n cap : Nat} {l : List Ask} (h : Asks w a n cap l) : l.length = n := by
  have := Rd.len h; rw [askC_length] at this; omega
theorem Asks.bounds {w : World} {a : Option Addr} {n cap : Nat} {l : List Ask} (h : Asks w a n cap l) : n ≤ cap ∧ cap ≤ 9223372036854775807 := by
  have h1 := Rd.le h
  have h2 := Rd.max h
  unfold maxLen at h2
  exact ⟨h1, by omega⟩
theorem Asks.at {w : World} {a : Option Addr} {n cap : Nat} {l : List Ask} (h : Asks w a n cap l) {k : Nat} (hk : k < n) :
    ∃ b off, a = some ⟨b, off, none⟩ ∧ b < w.heap.size ∧ w.cell? ⟨b, off + k * 3, none⟩ = some (.int .i64 (l[k]?.getD noAsk).1) ∧
      w.cell? ⟨b, off + k * 3 + 1, none⟩ = some (.int .i64 (l[k]?.getD noAsk).2.1) ∧ w.cell? ⟨b, off + k * 3 + 2, none⟩ = some (.string (l[k]?.getD noAsk).2.2) := by
  obtain ⟨b, off, ha, hb, hc⟩ := Rd.at h hk
  have hl := h.len
  refine ⟨b, off, ha, hb, ?_, ?_, ?_⟩
  · have := hc 0 (by omega); rw [askC_get l k 0 (by omega) (by omega)] at this; simpa [askV] using this
  · have := hc 1 (by omega); rw [askC_get l k 1 (by omega) (by omega)] at this; simpa [askV] using this
  · have := hc 2 (by omega); rw [askC_get l k 2 (by omega) (by omega)] at this; simpa [askV] using this
theorem Asks.below {w w' : World} {a : Option Addr} {n cap : Nat} {l : List Ask} (h : Asks w a n cap l) (hb : Below w.heap.size w w') : Asks w' a n cap l := Rd.below h hb

/-! ### fit -/
def okAsk (next last : Int) (a : Ask) : Bool := !(decide (a.1 ≤ last) || decide (next < a.1) || decide (a.2.1 < 0) || decide (1099511627776 < a.2.1))
def fitFrom (next : Int) : Int → List Ask → Bool
  | _, [] => true
  | last, a :: r => okAsk next last a && fitFrom next a.1 r
def headFit (next : Int) (n : Nat) : Bool := !(decide (next < 0) || decide (4611686018427387904 < next) || decide (1024 < n))
def fitA (next : Int) (l : List Ask) : Bool := headFit next l.length && fitFrom next 0 l
theorem drop_at (l : List Ask) (k : Nat) (h : k < l.length) : l.drop k = (l[k]?.getD noAsk) :: l.drop (k + 1) := by
  rw [List.drop_eq_getElem_cons h]; simp [h]


/-- A state's box, the first block that a call laid. -/
structure Box (w : World) (next : Int) (a : Option Addr) (n cap : Nat) (W : World) : Prop where
  c0 : W.cell? ⟨w.heap.size, 0, none⟩ = some (.int .i64 next)
  c1 : W.cell? ⟨w.heap.size, 1, none⟩ = some (.slice a n cap)
  lt : w.heap.size < W.heap.size
  below : Below w.heap.size w W
theorem Box.new (w : World) (next : Int) (a : Option Addr) (n cap : Nat) (t : TypeId) : Box w next a n cap (w.alloc (.cells #[.int .i64 next, .slice a n cap] t)) :=
  ⟨by simp, by simp, by simp, (Below.refl _ _).alloc (Nat.le_refl _) _⟩
theorem Box.later {w : World} {next : Int} {a : Option Addr} {n cap : Nat} {W W' : World} (h : Box w next a n cap W) (hb : Below W.heap.size W W') : Box w next a n cap W' :=
  ⟨cellAt hb h.c0, cellAt hb h.c1, Nat.lt_of_lt_of_le h.lt hb.size, h.below.trans (hb.mono h.below.size)⟩
theorem Box.laterF {w : World} {next : Int} {a : Option Addr} {n cap B : Nat} {W W' : World} (h : Box w next a n cap W) (hB : w.heap.size < B) (hb : Below B W W') : Box w next a n cap W' :=
  ⟨(hb.cell (p := ⟨w.heap.size, 0, none⟩) hB).trans h.c0, (hb.cell (p := ⟨w.heap.size, 1, none⟩) hB).trans h.c1, Nat.lt_of_lt_of_le h.lt hb.size, h.below.trans (hb.mono (by omega))⟩

/-- A block of two cells that may be written. -/
structure Two (W : World) (b : Nat) (v0 v1 : Value) : Prop where
  c0 : W.cell? ⟨b, 0, none⟩ = some v0
  c1 : W.cell? ⟨b, 1, none⟩ = some v1
  f0 : W.frozen? ⟨b, 0, none⟩ = false
  f1 : W.frozen? ⟨b, 1, none⟩ = false
section
variable {W W' : World} {b : Nat} {v0 v1 : Value}
theorem Two.later (h : Two W b v0 v1) (hb : Below W.heap.size W W') : Two W' b v0 v1 := ⟨cellAt hb h.c0, cellAt hb h.c1, freeAt hb h.c0 h.f0, freeAt hb h.c1 h.f1⟩
theorem Two.alloc (h : Two W b v0 v1) (o : Obj) : Two (W.alloc o) b v0 v1 := h.later ((Below.refl _ _).alloc (Nat.le_refl _) _)
theorem Two.gr {row : Option Nat} (h : Two W b v0 v1) (hg : W.grownBy W' row) (hne : some b ≠ row) : Two W' b v0 v1 := ⟨cellGr hg h.c0 hne, cellGr hg h.c1 hne, freeGr hg h.c0 h.f0 hne, freeGr hg h.c1 h.f1 hne⟩
theorem Two.put {p : Addr} (h : Two W b v0 v1) (hp : p.block ≠ b) (u : Value) : Two (W.setCell p u) b v0 v1 := h.gr (grownBy_setAt W p u) (by simp; omega)
theorem Two.set0 (h : Two W b v0 v1) (u : Value) : Two (W.setCell ⟨b, 0, none⟩ u) b u v1 :=
  ⟨World.cell?_setCell_same' _ _ _ (by rw [h.c0]; rfl), by rw [World.cell?_setCell_other _ _ _ _ (by simp)]; exact h.c1, by rw [World.frozen?_setCell]; exact h.f0, by rw [World.frozen?_setCell]; exact h.f1⟩
theorem Two.set1 (h : Two W b v0 v1) (u : Value) : Two (W.setCell ⟨b, 1, none⟩ u) b v0 u :=
  ⟨by rw [World.cell?_setCell_other _ _ _ _ (by simp)]; exact h.c0, World.cell?_setCell_same' _ _ _ (by rw [h.c1]; rfl), by rw [World.frozen?_setCell]; exact h.f0, by rw [World.frozen?_setCell]; exact h.f1⟩
theorem Two.lt (h : Two W b v0 v1) : b < W.heap.size := World.block_lt_of_cell? _ _ h.c0
end
theorem Two.new (W : World) (v0 v1 : Value) (t : TypeId) : Two (W.alloc (.cells #[v0, v1] t)) W.heap.size v0 v1 := ⟨by simp, by simp, by simp, by simp⟩
end Go.Proofs.Ytoninfccmonaiaa
