/-
  Slices as rows of cells, for the proofs of this seat: a slice value that reads as some cells ('Rd'), one that the call may write on too ('Row'), and append, make, reslicing and stores in these words. Not a statement of the seat.
-/
import Derived.Deep.AppendSrc
import Derived.Deep.Upon
import Derived.Below
import Derived.WalkKit
import Derived.Laws.MakeOwn
namespace Go.Proofs.YtbldidiibkcelaaGreatDoor
open Go.RowKit

/-- The slice value '.slice a n cap' (elements of sz cells) reads as the cells xs. -/
def Rd (w : World) (sz : Nat) (a : Option Addr) (n cap : Nat) (xs : List Value) : Prop :=
  xs.length = n * sz ∧ n ≤ cap ∧ cap ≤ maxLen ∧
    ((n = 0 ∧ (a = none → cap = 0)) ∨ ∃ b off, a = some ⟨b, off, none⟩ ∧ b < w.heap.size ∧ ∀ j, j < xs.length → w.cell? ⟨b, off + j, none⟩ = xs[j]?)

/-- .. and the call may write on it: it lies in a block from B on, nothing of it is frozen, its spare cells are there. -/
def Row (B : Nat) (w : World) (sz : Nat) (a : Option Addr) (n cap : Nat) (xs : List Value) : Prop :=
  xs.length = n * sz ∧ n ≤ cap ∧ cap ≤ maxLen ∧
    ((a = none ∧ cap = 0) ∨ ∃ b off, a = some ⟨b, off, none⟩ ∧ B ≤ b ∧ b < w.heap.size ∧ (∀ j, j < xs.length → w.cell? ⟨b, off + j, none⟩ = xs[j]?) ∧
      (∀ j, j < cap * sz → (w.cell? ⟨b, off + j, none⟩).isSome = true ∧ w.frozen? ⟨b, off + j, none⟩ = false))

/-- Its block. -/
def blockOf (a : Option Addr) : Option Nat := a.map (·.block)

section
variable {B : Nat} {w w' : World} {sz : Nat} {a : Option Addr} {n cap : Nat} {xs : List Value}

theorem Row.rd (h : Row B w sz a n cap xs) : Rd w sz a n cap xs := by
  obtain ⟨h1, h2, h3, h4⟩ := h
  refine ⟨h1, h2, h3, ?_⟩
  rcases h4 with h4 | ⟨b, off, ha, _, hlt, hc, _⟩
  · exact .inl ⟨by omega, fun _ => h4.2⟩
  · exact .inr ⟨b, off, ha, hlt, hc⟩

theorem Row.mono {B' : Nat} (h : Row B w sz a n cap xs) (hB : B' ≤ B) : Row B' w sz a n cap xs := by
  obtain ⟨h1, h2, h3, h4⟩ := h
  refine ⟨h1, h2, h3, ?_⟩
  rcases h4 with h4 | ⟨b, off, ha, hb, r⟩
  · exact .inl h4
  · exact .inr ⟨b, off, ha, Nat.le_trans hB hb, r⟩

theorem Row.nil (B : Nat) (w : World) (sz : Nat) : Row B w sz none 0 0 [] := ⟨by simp, Nat.le_refl _, Nat.zero_le _, .inl ⟨rfl, rfl⟩⟩
theorem Rd.nil (w : World) (sz : Nat) : Rd w sz none 0 0 [] := (Row.nil 0 w sz).rd

theorem Rd.le (h : Rd w sz a n cap xs) : n ≤ cap := h.2.1
theorem Rd.max (h : Rd w sz a n cap xs) : cap ≤ maxLen := h.2.2.1
theorem Rd.len (h : Rd w sz a n cap xs) : xs.length = n * sz := h.1
theorem Rd.none0 (h : Rd w sz none n cap xs) : n = 0 ∧ cap = 0 := by
  obtain ⟨_, h2, _, h4⟩ := h
  rcases h4 with ⟨h5, h6⟩ | ⟨b, off, ha, _⟩
  · exact ⟨h5, h6 rfl⟩
  · cases ha

/-- Element k's cells. -/
theorem Rd.at (h : Rd w sz a n cap xs) {k : Nat} (hk : k < n) : ∃ b off, a = some ⟨b, off, none⟩ ∧ b < w.heap.size ∧ ∀ i, i < sz → w.cell? ⟨b, off + k * sz + i, none⟩ = xs[k * sz + i]? := by
  obtain ⟨h1, h2, h3, h4⟩ := h
  rcases h4 with ⟨h5, _⟩ | ⟨b, off, ha, hb, hc⟩
  · omega
  · refine ⟨b, off, ha, hb, fun i hi => ?_⟩
    have hlt : k * sz + i < xs.length := by
      rw [h1]
      have : k * sz + sz ≤ n * sz := by rw [← Nat.succ_mul]; exact Nat.mul_le_mul_right _ hk
      omega
    rw [Nat.add_assoc]
    exact hc _ hlt

theorem Rd.at1 (h : Rd w 1 a n cap xs) {k : Nat} (hk : k < n) : ∃ b off, a = some ⟨b, off, none⟩ ∧ b < w.heap.size ∧ w.cell? ⟨b, off + k, none⟩ = xs[k]? := by
  obtain ⟨b, off, ha, hb, hc⟩ := h.at hk
  exact ⟨b, off, ha, hb, by simpa using hc 0 (by omega)⟩

theorem Rd.below (h : Rd w sz a n cap xs) (hb : Below w.heap.size w w') : Rd w' sz a n cap xs := by
  obtain ⟨h1, h2, h3, h4⟩ := h
  refine ⟨h1, h2, h3, ?_⟩
  rcases h4 with h4 | ⟨b, off, ha, hlt, hc⟩
  · exact .inl h4
  · exact .inr ⟨b, off, ha, Nat.lt_of_lt_of_le hlt hb.size, fun j hj => (hb.cell (p := ⟨b, off + j, none⟩) hlt).trans (hc j hj)⟩

/-- .. where its block lies below n0. -/
theorem Row.below (h : Row B w sz a n cap xs) (hb : Below w.heap.size w w') : Row B w' sz a n cap xs := by
  obtain ⟨h1, h2, h3, h4⟩ := h
  refine ⟨h1, h2, h3, ?_⟩
  rcases h4 with h4 | ⟨b, off, ha, hB, hlt, hc, hs⟩
  · exact .inl h4
  · exact .inr ⟨b, off, ha, hB, Nat.lt_of_lt_of_le hlt hb.size, fun j hj => (hb.cell (p := ⟨b, off + j, none⟩) hlt).trans (hc j hj),
      fun j hj => ⟨by rw [hb.cell (p := ⟨b, off + j, none⟩) hlt]; exact (hs j hj).1, by rw [hb.frozen (p := ⟨b, off + j, none⟩) hlt]; exact (hs j hj).2⟩⟩

/-- .. a world that has turned in one block at most, which is another. -/
theorem Row.kept {row : Option Nat} (h : Row B w sz a n cap xs) (hg : w.grownBy w' row) (hne : blockOf a ≠ row ∨ row = none) : Row B w' sz a n cap xs := by
  obtain ⟨h1, h2, h3, h4⟩ := h
  refine ⟨h1, h2, h3, ?_⟩
  rcases h4 with h4 | ⟨b, off, ha, hB, hlt, hc, hs⟩
  · exact .inl h4
  · have hbl : w'.heap[b]? = w.heap[b]? := hg.block b hlt (by rcases hne with h | h; rw [ha] at h; simpa [blockOf] using h; rw [h]; simp)
    exact .inr ⟨b, off, ha, hB, Nat.lt_of_lt_of_le hlt hg.size, fun j hj => (World.cell?_of_block (a := ⟨b, off + j, none⟩) hbl).trans (hc j hj),
      fun j hj => ⟨by rw [World.cell?_of_block (a := ⟨b, off + j, none⟩) hbl]; exact (hs j hj).1, by rw [World.frozen?_of_block (a := ⟨b, off + j, none⟩) hbl]; exact (hs j hj).2⟩⟩

theorem Rd.kept {row : Option Nat} (h : Rd w sz a n cap xs) (hg : w.grownBy w' row) (hne : blockOf a ≠ row ∨ row = none) : Rd w' sz a n cap xs := by
  obtain ⟨h1, h2, h3, h4⟩ := h
  refine ⟨h1, h2, h3, ?_⟩
  rcases h4 with h4 | ⟨b, off, ha, hlt, hc⟩
  · exact .inl h4
  · refine .inr ⟨b, off, ha, Nat.lt_of_lt_of_le hlt hg.size, fun j hj => ?_⟩
    · have hbl : w'.heap[b]? = w.heap[b]? := hg.block b hlt (by rcases hne with h | h; rw [ha] at h; simpa [blockOf] using h; rw [h]; simp)
      exact (World.cell?_of_block (a := ⟨b, off + j, none⟩) hbl).trans (hc j hj)

theorem Row.alloc (h : Row B w sz a n cap xs) (o : Obj) : Row B (w.alloc o) sz a n cap xs := h.below ((Below.refl _ _).alloc (Nat.le_refl _) _)
theorem Rd.alloc (h : Rd w sz a n cap xs) (o : Obj) : Rd (w.alloc o) sz a n cap xs := h.below ((Below.refl _ _).alloc (Nat.le_refl _) _)
theorem Row.drew (h : Row B w sz a n cap xs) : Row B w.drew sz a n cap xs := h.below (Below.refl _ _).drew
theorem Rd.drew (h : Rd w sz a n cap xs) : Rd w.drew sz a n cap xs := h.below (Below.refl _ _).drew

theorem Row.lt (h : Row B w sz a n cap xs) : ∀ k, blockOf a = some k → B ≤ k ∧ k < w.heap.size := by
  intro k hk
  rcases h.2.2.2 with ⟨rfl, _⟩ | ⟨b, off, rfl, hB, hlt, _⟩
  · simp [blockOf] at hk
  · simp [blockOf] at hk; omega

/-- An empty slice of a new array without room. -/
theorem Row.empty (w : World) (e : TypeId) (sz : Nat) : Row w.heap.size (w.alloc (.cells #[] e)) sz (some ⟨w.heap.size, 0, none⟩) 0 0 [] :=
  ⟨by simp, Nat.le_refl _, Nat.zero_le _, .inr ⟨_, _, rfl, Nat.le_refl _, by simp, fun j hj => by simp at hj, fun j hj => by simp at hj⟩⟩

/-- What the kit's own words say of an owned row. -/
theorem Row.of_owns {e : TypeId} {v : Value} (h : w.ownsRow B e sz v n xs) : ∃ a cap, v = .slice a n cap ∧ Row B w sz a n cap xs := by
  obtain ⟨h1, h2⟩ := h
  rcases h2 with ⟨rfl, rfl⟩ | ⟨g, cap, cur, rfl, hg, hh, hn, hm, hs, ht⟩
  · exact ⟨none, 0, rfl, h1, Nat.le_refl _, Nat.zero_le _, .inl ⟨rfl, rfl⟩⟩
  · refine ⟨_, cap, rfl, h1, hn, hm, .inr ⟨g, 0, rfl, hg, (Array.getElem?_eq_some_iff.1 hh).1, fun j hj => ?_, fun j hj => ?_⟩⟩
    · rw [cell_of_row w g (0 + j) cur e (0, 0) hh, Nat.zero_add, ← ht, List.getElem?_take]
      rw [h1] at hj
      rw [if_pos hj]; simp
    · constructor
      · rw [cell_of_row w g (0 + j) cur e (0, 0) hh, Nat.zero_add]
        simp [hs, hj]
      · simp [World.frozen?, hh]

/-- 's[k:]' -/
theorem Row.drop (h : Row B w sz a n cap xs) {k : Nat} (hk : k ≤ n) {b off : Nat} (ha : a = some ⟨b, off, none⟩) : Row B w sz (some ⟨b, off + k * sz, none⟩) (n - k) (cap - k) (xs.drop (k * sz)) := by
  obtain ⟨h1, h2, h3, h4⟩ := h
  refine ⟨by rw [List.length_drop, h1, Nat.sub_mul], by omega, by omega, ?_⟩
  rcases h4 with ⟨h5, _⟩ | ⟨b', off', ha', hB, hlt, hc, hs⟩
  · rw [h5] at ha; cases ha
  · rw [ha] at ha'
    cases ha'
    have hkn : k * sz ≤ n * sz := Nat.mul_le_mul_right _ hk
    refine .inr ⟨b, _, rfl, hB, hlt, fun j hj => ?_, fun j hj => ?_⟩
    · rw [List.length_drop] at hj
      rw [Nat.add_assoc, hc (k * sz + j) (by omega), List.getElem?_drop]
    · rw [Nat.sub_mul] at hj
      rw [Nat.add_assoc]
      exact hs (k * sz + j) (by omega)

theorem Rd.drop (h : Rd w sz a n cap xs) {k : Nat} (hk : k ≤ n) {b off : Nat} (ha : a = some ⟨b, off, none⟩) : Rd w sz (some ⟨b, off + k * sz, none⟩) (n - k) (cap - k) (xs.drop (k * sz)) := by
  obtain ⟨h1, h2, h3, h4⟩ := h
  refine ⟨by rw [List.length_drop, h1, Nat.sub_mul], by omega, by omega, ?_⟩
  rcases h4 with ⟨h5, _⟩ | ⟨b', off', ha', hlt, hc⟩
  · exact .inl ⟨by omega, fun h => by cases h⟩
  · rw [ha] at ha'
    cases ha'
    have hkn : k * sz ≤ n * sz := Nat.mul_le_mul_right _ hk
    refine .inr ⟨b, _, rfl, hlt, fun j hj => ?_⟩
    rw [List.length_drop] at hj
    rw [Nat.add_assoc, hc (k * sz + j) (by omega), List.getElem?_drop]

/-- 's[:k]' and 's[:k:c]' -/
theorem Row.take (h : Row B w sz a n cap xs) {k c : Nat} (hk : k ≤ n) (hkc : k ≤ c) (hc : c ≤ cap) : Row B w sz a k c (xs.take (k * sz)) := by
  obtain ⟨h1, h2, h3, h4⟩ := h
  have hkn : k * sz ≤ n * sz := Nat.mul_le_mul_right _ hk
  refine ⟨by rw [List.length_take, h1]; omega, hkc, by omega, ?_⟩
  rcases h4 with ⟨h5, h6⟩ | ⟨b, off, ha, hB, hlt, hcs, hs⟩
  · exact .inl ⟨h5, by omega⟩
  · refine .inr ⟨b, off, ha, hB, hlt, fun j hj => ?_, fun j hj => hs j (Nat.lt_of_lt_of_le hj (Nat.mul_le_mul_right _ hc))⟩
    rw [List.length_take] at hj
    rw [hcs j (by omega), List.getElem?_take, if_pos (by omega)]

theorem Rd.take (h : Rd w sz a n cap xs) {k c : Nat} (hk : k ≤ n) (hkc : k ≤ c) (hc : c ≤ cap) : Rd w sz a k c (xs.take (k * sz)) := by
  obtain ⟨h1, h2, h3, h4⟩ := h
  have hkn : k * sz ≤ n * sz := Nat.mul_le_mul_right _ hk
  refine ⟨by rw [List.length_take, h1]; omega, hkc, by omega, ?_⟩
  rcases h4 with ⟨h5, h6⟩ | ⟨b, off, ha, hlt, hcs⟩
  · exact .inl ⟨by omega, fun h => by have := h6 h; omega⟩
  · refine .inr ⟨b, off, ha, hlt, fun j hj => ?_⟩
    rw [List.length_take] at hj
    rw [hcs j (by omega), List.getElem?_take, if_pos (by omega)]

/-- The address of 's[l:]', m the capacity: at l = m Go keeps the old one. -/
def slAt (a : Option Addr) (l m s : Nat) : Option Addr := if m = l then a else a.map (fun x => x.add (l * s))
theorem slAt_some (b off l m s : Nat) : slAt (some ⟨b, off, none⟩) l m s = some ⟨b, off, none⟩ ∨ slAt (some ⟨b, off, none⟩) l m s = some ⟨b, off + l * s, none⟩ := by
  unfold slAt
  split
  · exact .inl rfl
  · right; simp [Addr.add_lit]
theorem blockOf_slAt (a : Option Addr) (l m s : Nat) : blockOf (slAt a l m s) = blockOf a := by
  unfold slAt
  split
  · rfl
  · cases a with
    | none => rfl
    | some a => simp only [blockOf, Option.map_some, Addr.add]; split <;> rfl

theorem Row.from (h : Row B w sz a n cap xs) {k : Nat} (hk : k ≤ n) : Row B w sz (slAt a k cap sz) (n - k) (cap - k) (xs.drop (k * sz)) := by
  have hle := h.2.1
  rcases h.2.2.2 with ⟨rfl, rfl⟩ | ⟨b, off, rfl, _⟩
  · obtain rfl : n = 0 := by omega
    obtain rfl : k = 0 := by omega
    simpa [slAt] using h
  · by_cases hc : cap = k
    · obtain rfl : n = k := by omega
      rw [slAt, if_pos hc, Nat.sub_self, hc, Nat.sub_self]
      have := h.take (k := 0) (c := 0) (Nat.zero_le _) (Nat.le_refl _) (Nat.zero_le _)
      rw [List.drop_of_length_le (by rw [h.1]; exact Nat.le_refl _)]
      simpa using this
    · rw [slAt, if_neg hc]
      simp only [Option.map_some, Addr.add_lit]
      exact h.drop hk rfl

theorem slAt_none (a : Option Addr) (l m s : Nat) : slAt a l m s = none ↔ a = none := by
  unfold slAt
  split
  · exact Iff.rfl
  · simp

theorem Rd.from (h : Rd w sz a n cap xs) {k : Nat} (hk : k ≤ n) : Rd w sz (slAt a k cap sz) (n - k) (cap - k) (xs.drop (k * sz)) := by
  obtain ⟨h1, h2, h3, h4⟩ := h
  by_cases hkn : n = k
  · subst hkn
    refine ⟨by rw [List.length_drop, h1]; simp, by omega, by omega, .inl ⟨by omega, fun h => ?_⟩⟩
    rw [slAt_none] at h
    rcases h4 with ⟨h5, h6⟩ | ⟨b, off, ha, _⟩
    · have := h6 h; omega
    · rw [ha] at h; cases h
  · rcases h4 with ⟨h5, h6⟩ | ⟨b, off, rfl, hr⟩
    · omega
    · rw [slAt, if_neg (by omega)]
      simp only [Option.map_some, Addr.add_lit]
      exact Rd.drop ⟨h1, h2, h3, .inr ⟨b, off, rfl, hr⟩⟩ hk rfl

/-- A store at cell j of the row. -/
theorem Row.set (h : Row B w sz a n cap xs) {b off : Nat} (ha : a = some ⟨b, off, none⟩) {j : Nat} (u : Value) : Row B (w.setCell ⟨b, off + j, none⟩ u) sz a n cap (xs.set j u) := by
  obtain ⟨h1, h2, h3, h4⟩ := h
  refine ⟨by simpa using h1, h2, h3, ?_⟩
  rcases h4 with ⟨h5, _⟩ | ⟨b', off', ha', hB, hlt, hc, hs⟩
  · rw [h5] at ha; cases ha
  · rw [ha] at ha'
    cases ha'
    have hsz : (w.setCell ⟨b, off + j, none⟩ u).heap.size = w.heap.size := by simp [World.setCell]
    refine .inr ⟨b, off, ha, hB, by omega, fun i hi => ?_, fun i hi => ⟨?_, by rw [World.frozen?_setCell]; exact (hs i hi).2⟩⟩
    · rw [List.length_set] at hi
      by_cases hij : i = j
      · subst hij
        rw [World.cell?_setCell_same' _ _ _ (by rw [hc i hi]; simp [hi])]
        simp [hi]
      · rw [World.cell?_setCell_other _ _ _ _ (by first | (simp; done) | (simp; omega)), hc i hi, List.getElem?_set_ne (fun e => hij e.symm)]
    · by_cases hij : i = j
      · subst hij
        rw [World.cell?_setCell_same' _ _ _ (hs i hi).1]; rfl
      · rw [World.cell?_setCell_other _ _ _ _ (by first | (simp; done) | (simp; omega))]; exact (hs i hi).1
end

theorem heap_setCells (g : Nat) : ∀ (vs : List Value) (o : Nat) (w : World) (k : Nat), k ≠ g → (w.setCells g o vs).heap[k]? = w.heap[k]?
  | [], _, _, _, _ => rfl
  | v :: r, o, w, k, h => by rw [World.setCells, heap_setCells g r (o + 1) _ k h]; exact Below.heap_setCell _ _ _ _ h
theorem size_setCells (g : Nat) : ∀ (vs : List Value) (o : Nat) (w : World), (w.setCells g o vs).heap.size = w.heap.size
  | [], _, _ => rfl
  | v :: r, o, w => by rw [World.setCells, size_setCells g r]; simp [World.setCell]
theorem tape_setCells (g : Nat) : ∀ (vs : List Value) (o : Nat) (w : World), (w.setCells g o vs).tape = w.tape
  | [], _, _ => rfl
  | v :: r, o, w => by rw [World.setCells, tape_setCells g r]; rfl
theorem isSome_setCells (g : Nat) : ∀ (vs : List Value) (o : Nat) (w : World) (x : Addr), (w.cell? x).isSome = true → ((w.setCells g o vs).cell? x).isSome = true
  | [], _, _, _, h => h
  | v :: r, o, w, x, h => by
    rw [World.setCells]
    refine isSome_setCells g r (o + 1) _ x ?_
    by_cases e : (⟨g, o, none⟩ : Addr) = x
    · subst e; rw [World.cell?_setCell_same' _ _ _ h]; rfl
    · rw [World.cell?_setCell_other _ _ _ _ e]; exact h
theorem grownBy_setCells (w : World) (g o : Nat) (vs : List Value) : w.grownBy (w.setCells g o vs) (some g) :=
  ⟨World.os_setCells _ _ _ _, tape_setCells _ _ _ _, World.output_setCells _ _ _ _, by rw [size_setCells]; exact Nat.le_refl _, fun k _ hk => heap_setCells g _ _ _ k (fun e => hk (by rw [e]))⟩

section
variable {P : Program} {w : World}

/-- 'append', whatever is appended, onto a row that the call may write on. -/
theorem run_append_row (t tx ty e : TypeId) (i : TypeInfo) (z : Value) (size bytes : Nat) (ht : P.underlying t = some (.slice e)) (hi : P.info? e = some i) (hz : i.zero = some z) (hsize : i.size = size) (hby : i.bytes = bytes) (hzs : z.cells.size = size)
    {B : Nat} {a : Option Addr} {n cap : Nat} {xs : List Value} (h : Row B w size a n cap xs) (x : Value) (m : Nat) (news : List Value) (hs : Src P size tx x m news w)
    (h63 : n + m ≤ maxLen) (hbytes : (n + m) * bytes ≤ 140737488355328) (hB : B ≤ w.heap.size) :
    ∃ a' cap' w', (Builtin.append_ #[t, tx] ty #[.slice a n cap, x]).run P w = .ok (.slice a' (n + m) cap') w' ∧ Row B w' size a' (n + m) cap' (xs ++ news) ∧ w.grownBy w' (blockOf a) ∧ (blockOf a' = blockOf a ∨ blockOf a' = some w.heap.size) := by
  obtain ⟨h1, h2, h3, h4⟩ := h
  subst hsize
  subst hby
  have hlen : (xs ++ news).length = (n + m) * i.size := by rw [List.length_append, h1, hs.newsLen, Nat.add_mul]
  by_cases hroom : n + m ≤ cap
  · rcases h4 with ⟨rfl, rfl⟩ | ⟨b, off, rfl, hBb, hlt, hc, hsp⟩
    · obtain rfl : n = 0 := by omega
      obtain rfl : m = 0 := by omega
      have hn : news = [] := List.eq_nil_of_length_eq_zero (by rw [hs.newsLen]; simp)
      subst hn
      refine ⟨none, 0, w, run_append_nothing w t tx ty e i ht hi none 0 0 (Nat.le_refl _) x hs, ⟨hlen, Nat.le_refl _, Nat.zero_le _, .inl ⟨rfl, rfl⟩⟩, ⟨rfl, rfl, rfl, Nat.le_refl _, fun _ _ _ => rfl⟩, .inl rfl⟩
    · have hnl := hs.newsLen
      have hle : (n + m) * i.size ≤ cap * i.size := Nat.mul_le_mul_right _ hroom
      rw [Nat.add_mul] at hle
      have hsp' : ∀ j, j < news.length → (w.cell? ⟨b, off + n * i.size + j, none⟩).isSome = true := fun j hj => by
        rw [Nat.add_assoc]; exact (hsp (n * i.size + j) (by omega)).1
      have hfr' : ∀ j, j < news.length → w.frozen? ⟨b, off + n * i.size + j, none⟩ = false := fun j hj => by
        rw [Nat.add_assoc]; exact (hsp (n * i.size + j) (by omega)).2
      have hr := run_append_room_src (P := P) w t tx ty e i ht hi b off n cap x m news hs hroom hsp' hfr'
      refine ⟨some ⟨b, off, none⟩, cap, _, hr, ⟨hlen, hroom, h3, .inr ⟨b, off, rfl, hBb, by rw [size_setCells]; exact hlt, fun j hj => ?_, fun j hj => ⟨?_, ?_⟩⟩⟩, grownBy_setCells _ _ _ _, .inl rfl⟩
      · by_cases hj1 : j < xs.length
        · rw [World.cell?_setCells_out b news _ w ⟨b, off + j, none⟩ (fun _ _ => .inl (by simp only; omega)), hc j hj1, List.getElem?_append_left hj1]
        · have hj2 : j - n * i.size < news.length := by rw [List.length_append] at hj; omega
          have := World.cell?_setCells_in b news (off + n * i.size) w hsp' (j - n * i.size) hj2
          rw [show off + n * i.size + (j - n * i.size) = off + j by omega] at this
          rw [this, List.getElem?_append_right (by omega), h1]
          simp [hj2]
      · exact isSome_setCells b news _ w _ (hsp j hj).1
      · rw [World.frozen?_setCells]; exact (hsp j hj).2
  · have hold : (Builtin.firstCells i.size n (.slice a n cap)).run P w.drew = .ok xs.toArray w.drew := by
      rcases h4 with ⟨rfl, rfl⟩ | ⟨b, off, rfl, hBb, hlt, hc, hsp⟩
      · obtain rfl : n = 0 := by omega
        have hx : xs = [] := List.eq_nil_of_length_eq_zero (by rw [h1]; simp)
        subst hx
        exact run_firstCells_none w.drew i.size 0 0 0
      · refine run_firstCells_some w.drew i.size n _ n cap xs h1 (fun j u hj => ?_)
        rw [Addr.add_lit]
        have hjl := (List.getElem?_eq_some_iff.1 hj).1
        show w.cell? _ = _
        rw [hc j hjl, hj]
    have hr := run_append_grow_src (P := P) w t tx ty e i z ht hi hz a n cap xs hold x m news hs (by omega) (by simp only [maxLen] at h63; omega) (growslice_fits (by omega) hbytes)
    have hge := grownCap_ge w (n + m) cap e
    have hcm : grownCap w (n + m) cap e ≤ maxLen := grownCap_le_maxLen w (n + m) cap e h63
    have hown : (w.drew.alloc (.cells ((xs ++ news).toArray ++ Builtin.zeroCells z.cells (grownCap w (n + m) cap e - (n + m))) e)).ownsRow B e i.size (.slice (some ⟨w.heap.size, 0, none⟩) (n + m) (grownCap w (n + m) cap e)) (n + m) (xs ++ news) := by
      refine ⟨hlen, .inr ⟨w.heap.size, _, _, rfl, hB, heap_alloc_new w.drew _, hge, hcm, ?_, ?_⟩⟩
      · simp only [Array.size_append, List.size_toArray, size_zeroCells, hzs, hlen, ← Nat.add_mul]
        congr 1
        omega
      · simp only [Array.toList_append]
        rw [← hlen]
        exact List.take_left
    obtain ⟨a', cap', he, hrow⟩ := Row.of_owns hown
    cases he
    exact ⟨_, _, _, hr, hrow, ⟨rfl, rfl, rfl, by simp, fun k hk _ => Below.heap_alloc w.drew _ k hk⟩, .inr rfl⟩

/-- 's[k:]', as the walk meets it: lay it ahead of the walk. -/
theorem run_slice_from (t e : TypeId) (ht : P.underlying t = some (.slice e)) {i : TypeInfo} (hi : P.info? e = some i) {size : Nat} (hsize : i.size = size) (a : Option Addr) (n cap k : Nat) (hk : k ≤ n) (w : World) :
    (Instr.slice t (.slice a n cap) (some (.int .i64 (k : Int))) none none).run P w = .ok (.slice (slAt a k cap size) (n - k) (cap - k)) w := by
  subst hsize
  have h0 : (0 : Int) ≤ (k : Int) := by omega
  have h1 : ((k : Int)) ≤ (n : Int) := by omega
  simp [Instr.slice, run_underlying ht, Instr.sliceBounds, run_sliceBound, h0, h1, sizeOf, typeInfo, hi, slAt]

/-- What is appended is one element of one cell, laid for it just now. -/
theorem Src.one {tx e' : TypeId} (hk : P.underlying tx = some (.slice e')) (v : Value) (e : TypeId) (h1 : v.oneCell' = true) : Src P 1 tx (.slice (some ⟨w.heap.size, 0, none⟩) 1 1) 1 [v] (w.alloc (.cells #[v] e)) :=
  Src.ofSlice _ hk _ 1 1 [v] (by simp) (fun j u hj => by
    rw [Addr.add_lit]
    cases j with
    | zero => simp at hj; subst hj; simp
    | succ j => simp at hj) (by simpa using h1)

/-- .. its address as the walk spells it. -/
theorem Src.oneAt {tx e' : TypeId} (hk : P.underlying tx = some (.slice e')) (v : Value) (e : TypeId) (h1 : v.oneCell' = true) {g : Nat} (hg : g = w.heap.size) : Src P 1 tx (.slice (some ⟨g, 0, none⟩) 1 1) 1 [v] (w.alloc (.cells #[v] e)) := by
  subst hg
  exact Src.one hk v e h1

/-- What is appended is a slice that reads as some cells. -/
theorem Src.ofRd {size : Nat} {tx e' : TypeId} (hk : P.underlying tx = some (.slice e')) {a : Option Addr} {n c : Nat} {news : List Value} (h : Rd w size a n c news) (h1 : ∀ u ∈ news, u.oneCell' = true) : Src P size tx (.slice a n c) n news w := by
  obtain ⟨hl, hn, _, h4⟩ := h
  rcases h4 with ⟨rfl, h6⟩ | ⟨b, off, rfl, hlt, hc⟩
  · have hx : news = [] := List.eq_nil_of_length_eq_zero (by rw [hl]; simp)
    subst hx
    cases a with
    | none => exact Src.ofNil w hk c
    | some a => exact Src.ofSlice w hk a 0 c [] (by simp) (fun j u hj => by simp at hj) h1
  · refine Src.ofSlice w hk _ n c news hl (fun j u hj => ?_) h1
    rw [Addr.add_lit]
    have hjl := (List.getElem?_eq_some_iff.1 hj).1
    rw [hc j hjl, hj]
end

/-- The same, for the walk. -/
theorem wpList_append_row {P : Program} {w : World} {ops : Array Oper} {rest : List Oper} {o : Oper} {ac : Act} {Q : Exit → Act → World → Prop} (hgd : o.guard = none) (s x : Operand) (t tx : TypeId)
    (hop : o.op = Op.call { callee := Callee.builtin Builtin.append, args := #[s, x], argTypes := #[t, tx] })
    (e : TypeId) (i : TypeInfo) (z : Value) (size bytes : Nat) (ht : P.underlying t = some (.slice e)) (hi : P.info? e = some i) (hz : i.zero = some z) (hsize : i.size = size) (hby : i.bytes = bytes) (hzs : z.cells.size = size)
    {B : Nat} {a : Option Addr} {n cap : Nat} {xs : List Value} (hs : ac.eval s = .slice a n cap) (h : Row B w size a n cap xs) (m : Nat) (news : List Value) (hsrc : Src P size tx (ac.eval x) m news w)
    (h63 : n + m ≤ maxLen) (hbytes : (n + m) * bytes ≤ 140737488355328) (hB : B ≤ w.heap.size)
    (hk : ∀ a' cap' w', Row B w' size a' (n + m) cap' (xs ++ news) → w.grownBy w' (blockOf a) → (blockOf a' = blockOf a ∨ blockOf a' = some w.heap.size) → wpList P ops Q rest (ac.put o.dst (.slice a' (n + m) cap')) w') :
    wpList P ops Q (o :: rest) ac w := by
  refine wpList_plain hgd fun K hK' => ?_
  obtain ⟨a', cap', w', hr, h1, h2, h3⟩ := run_append_row (P := P) (w := w) t tx o.type e i z size bytes ht hi hz hsize hby hzs h (ac.eval x) m news hsrc h63 hbytes hB
  unfold Oper.wp
  simp [execOp, hop, resolve, invoke, builtin, hs, hr, Result.andThen]
  exact hK' _ _ (hk a' cap' w' h1 h2 h3)

theorem grownBy_setAt (w : World) (a : Addr) (u : Value) : w.grownBy (w.setCell a u) (some a.block) :=
  ⟨rfl, rfl, rfl, by simp [World.setCell], fun _ _ hk => Below.heap_setCell _ _ _ _ (fun e => hk (by rw [e]))⟩
theorem Row.put {B : Nat} {W : World} {sz : Nat} {a : Option Addr} {n c : Nat} {xs : List Value} (h : Row B W sz a n c xs) {p : Addr} (hb : p.block < B) (u : Value) : Row B (W.setCell p u) sz a n c xs :=
  h.kept (grownBy_setAt _ _ _) (.inl (fun e => by have := h.lt _ e; omega))

/-- Element k of a row of one-cell elements: it may be read and written. -/
theorem Row.at1 {B : Nat} {w : World} {a : Option Addr} {n c : Nat} {xs : List Value} (h : Row B w 1 a n c xs) {k : Nat} (hk : k < n) :
    ∃ b off, a = some ⟨b, off, none⟩ ∧ B ≤ b ∧ b < w.heap.size ∧ (∃ v, w.cell? ⟨b, off + k, none⟩ = some v) ∧ w.frozen? ⟨b, off + k, none⟩ = false := by
  obtain ⟨h1, h2, h3, h4⟩ := h
  rcases h4 with ⟨_, h5⟩ | ⟨b, off, ha, hB, hb, hc, hs⟩
  · omega
  · obtain ⟨h5, h6⟩ := hs k (by omega)
    exact ⟨b, off, ha, hB, hb, Option.isSome_iff_exists.1 h5, h6⟩

theorem grownBy_trans {a b c : World} {row : Option Nat} (h : a.grownBy b row) (k : b.grownBy c row) : a.grownBy c row :=
  ⟨k.os.trans h.os, k.tape.trans h.tape, k.output.trans h.output, Nat.le_trans h.size k.size, fun i hi hn => (k.block i (Nat.lt_of_lt_of_le hi h.size) hn).trans (h.block i hi hn)⟩
theorem grownBy_refl (a : World) (row : Option Nat) : a.grownBy a row := ⟨rfl, rfl, rfl, Nat.le_refl _, fun _ _ _ => rfl⟩

/-- A cell, a mark behind a call that turns nothing that lay. -/
theorem cellAt {W w1 : World} (hb : Below W.heap.size W w1) {b o : Nat} {v : Value} (h : W.cell? ⟨b, o, none⟩ = some v) : w1.cell? ⟨b, o, none⟩ = some v :=
  (hb.cell (p := ⟨b, o, none⟩) (World.block_lt_of_cell? _ _ h)).trans h
theorem freeAt {W w1 : World} (hb : Below W.heap.size W w1) {b o : Nat} {v : Value} (h : W.cell? ⟨b, o, none⟩ = some v) (hf : W.frozen? ⟨b, o, none⟩ = false) : w1.frozen? ⟨b, o, none⟩ = false :=
  (hb.frozen (p := ⟨b, o, none⟩) (World.block_lt_of_cell? _ _ h)).trans hf
/-- .. behind a new block. -/
theorem cellNew {w : World} {b o : Nat} {v : Value} (x : Obj) (h : w.cell? ⟨b, o, none⟩ = some v) : (w.alloc x).cell? ⟨b, o, none⟩ = some v := cellAt ((Below.refl _ _).alloc (Nat.le_refl _) _) h
theorem freeNew {w : World} {b o : Nat} {v : Value} (x : Obj) (h : w.cell? ⟨b, o, none⟩ = some v) (hf : w.frozen? ⟨b, o, none⟩ = false) : (w.alloc x).frozen? ⟨b, o, none⟩ = false := freeAt ((Below.refl _ _).alloc (Nat.le_refl _) _) h hf
/-- .. behind a law that turns one block at most, which is another. -/
theorem cellGr {w w' : World} {row : Option Nat} (hg : w.grownBy w' row) {b o : Nat} {v : Value} (h : w.cell? ⟨b, o, none⟩ = some v) (hne : some b ≠ row) : w'.cell? ⟨b, o, none⟩ = some v := hg.cell h hne
theorem freeGr {w w' : World} {row : Option Nat} (hg : w.grownBy w' row) {b o : Nat} {v : Value} (h : w.cell? ⟨b, o, none⟩ = some v) (hf : w.frozen? ⟨b, o, none⟩ = false) (hne : some b ≠ row) : w'.frozen? ⟨b, o, none⟩ = false :=
  (World.frozen?_of_block (a := ⟨b, o, none⟩) (hg.block b (World.block_lt_of_cell? _ _ h) hne)).trans hf

end Go.Proofs.YtbldidiibkcelaaGreatDoor
