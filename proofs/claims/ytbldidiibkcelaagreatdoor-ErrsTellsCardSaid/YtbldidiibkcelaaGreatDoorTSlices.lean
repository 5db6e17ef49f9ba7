/-
  Slices as rows of cells, for the proofs of this seat: a slice value that reads as some cells ('Rd'), one that the call may write on too ('Row'), and append, make, reslicing and stores in these words. Not a statement of the seat.
-/
import Derived.Deep.AppendSrc
import Derived.Deep.Upon
import Derived.Below
import Derived.WalkKit
import Derived.Laws.MakeOwn
import Derived.Lib.ParseIntB
import Derived.Lib.ItoaNum
import Derived.Lib.Bytealg
import Derived.Test.YtbldidiibkcelaaGreatDoorProg
import Derived.Shelf.Strings.BuilderK
import Derived.Shelf.Small.Strs
import Derived.Shelf.Small.Wraps
import Derived.BigCall
import Derived.BigGuard
import Derived.Defers
import Derived.Lib.Hide
import Derived.Deep.Cut
import Derived.Deep.RegionHeld3
import Derived.Deep.QuietTactic
import Derived.WalkSpells
import Derived.WalkSmall
import Derived.StillTailTactics
import Derived.RegionTactic
import Derived.ChangeAlike
import Derived.BigQuiet
import Derived.Laws.IdiomStrings
import Derived.ScopeJumps
import Derived.WalkMore
namespace Go.Proofs.YtbldidiibkcelaaGreatDoor
open Go.RowKit

/-- The slice value '.slice a n cap' (elements of sz cells) reads as the cells xs. -/
def Rd (w : World) (sz : Nat) (a : Option Addr) (n cap : Nat) (xs : List Value) : Prop :=
  xs.length = n * sz ∧ n ≤ cap ∧ cap ≤ maxLen ∧
    ((n = 0 ∧ (a = none → cap = 0)) ∨ ∃ b off, a = some ⟨b, off, none⟩ ∧ b < w.heap.size ∧ ∀ j, j < xs.length → w.cell? ⟨b, off + j, none⟩ = xs[j]?)
/-- .. and the call may write on it: it lies in a block from B on, nothing of it is frozen, its spare cells are there. -/
def Row (B : Nat) (w : World) (sz : Nat) (a : Option Addr) (n cap : Nat) (xs : List Value) : Prop :=
  xs.length = n * sz ∧ n ≤ cap ∧ cap ≤ maxLen ∧
    ((a = none ∧ cap = 0) ∨ ∃ b off, a = some ⟨b, off, none⟩ ∧ B ≤ b ∧ b < w.heap.size ∧ (∀ j, j < xs.length → w.cell? ⟨b, off + j, none⟩ = xs[j]?) ∧
      (∀ j, j < cap * sz → (w.cell? ⟨b, off + j, none⟩).isSome = true ∧ w.frozen? ⟨b, off + j, none⟩ = false))
/-- Its block. -/
def blockOf (a : Option Addr) : Option Nat := a.map (·.block)
section
variable {B : Nat} {w w' : World} {sz : Nat} {a : Option Addr} {n cap : Nat} {xs : List Value}

theorem Row.rd (h : Row B w sz a n cap xs) : Rd w sz a n cap xs := by
  obtain ⟨h1, h2, h3, h4⟩ := h
  refine ⟨h1, h2, h3, ?_⟩
  rcases h4 with h4 | ⟨b, off, ha, _, hlt, hc, _⟩
  · exact .inl ⟨by omega, fun _ => h4.2⟩
  · exact .inr ⟨b, off, ha, hlt, hc⟩
theorem Row.mono {B' : Nat} (h : Row B w sz a n cap xs) (hB : B' ≤ B) : Row B' w sz a n cap xs := by
  obtain ⟨h1, h2, h3, h4⟩ := h
  refine ⟨h1, h2, h3, ?_⟩
  rcases h4 with h4 | ⟨b, off, ha, hb, r⟩
  · exact .inl h4
  · exact .inr ⟨b, off, ha, Nat.le_trans hB hb, r⟩
theorem Row.nil (B : Nat) (w : World) (sz : Nat) : Row B w sz none 0 0 [] := ⟨by simp, Nat.le_refl _, Nat.zero_le _, .inl ⟨rfl, rfl⟩⟩
theorem Rd.nil (w : World) (sz : Nat) : Rd w sz none 0 0 [] := (Row.nil 0 w sz).rd
theorem Rd.le (h : Rd w sz a n cap xs) : n ≤ cap := h.2.1
theorem Rd.max (h : Rd w sz a n cap xs) : cap ≤ maxLen := h.2.2.1
theorem Rd.len (h : Rd w sz a n cap xs) : xs.length = n * sz := h.1
/-- Element k's cells. -/
theorem Rd.at (h : Rd w sz a n cap xs) {k : Nat} (hk : k < n) : ∃ b off, a = some ⟨b, off, none⟩ ∧ b < w.heap.size ∧ ∀ i, i < sz → w.cell? ⟨b, off + k * sz + i, none⟩ = xs[k * sz + i]? := by
  obtain ⟨h1, h2, h3, h4⟩ := h
  rcases h4 with ⟨h5, _⟩ | ⟨b, off, ha, hb, hc⟩
  · omega
  · refine ⟨b, off, ha, hb, fun i hi => ?_⟩
    have hlt : k * sz + i < xs.length := by
      rw [h1]
      have : k * sz + sz ≤ n * sz := by rw [← Nat.succ_mul]; exact Nat.mul_le_mul_right _ hk
      omega
    rw [Nat.add_assoc]
    exact hc _ hlt
theorem Rd.at1 (h : Rd w 1 a n cap xs) {k : Nat} (hk : k < n) : ∃ b off, a = some ⟨b, off, none⟩ ∧ b < w.heap.size ∧ w.cell? ⟨b, off + k, none⟩ = xs[k]? := by
  obtain ⟨b, off, ha, hb, hc⟩ := h.at hk
  exact ⟨b, off, ha, hb, by simpa using hc 0 (by omega)⟩
theorem Rd.below (h : Rd w sz a n cap xs) (hb : Below w.heap.size w w') : Rd w' sz a n cap xs := by
  obtain ⟨h1, h2, h3, h4⟩ := h
  refine ⟨h1, h2, h3, ?_⟩
  rcases h4 with h4 | ⟨b, off, ha, hlt, hc⟩
  · exact .inl h4
  · exact .inr ⟨b, off, ha, Nat.lt_of_lt_of_le hlt hb.size, fun j hj => (hb.cell (p := ⟨b, off + j, none⟩) hlt).trans (hc j hj)⟩
/-- .. where its block lies below n0. -/
theorem Row.below (h : Row B w sz a n cap xs) (hb : Below w.heap.size w w') : Row B w' sz a n cap xs := by
  obtain ⟨h1, h2, h3, h4⟩ := h
  refine ⟨h1, h2, h3, ?_⟩
  rcases h4 with h4 | ⟨b, off, ha, hB, hlt, hc, hs⟩
  · exact .inl h4
  · exact .inr ⟨b, off, ha, hB, Nat.lt_of_lt_of_le hlt hb.size, fun j hj => (hb.cell (p := ⟨b, off + j, none⟩) hlt).trans (hc j hj),
      fun j hj => ⟨by rw [hb.cell (p := ⟨b, off + j, none⟩) hlt]; exact (hs j hj).1, by rw [hb.frozen (p := ⟨b, off + j, none⟩) hlt]; exact (hs j hj).2⟩⟩
/-- .. a world that has turned in one block at most, which is another. -/
theorem Row.kept {row : Option Nat} (h : Row B w sz a n cap xs) (hg : w.grownBy w' row) (hne : blockOf a ≠ row ∨ row = none) : Row B w' sz a n cap xs := by
  obtain ⟨h1, h2, h3, h4⟩ := h
  refine ⟨h1, h2, h3, ?_⟩
  rcases h4 with h4 | ⟨b, off, ha, hB, hlt, hc, hs⟩
  · exact .inl h4
  · have hbl : w'.heap[b]? = w.heap[b]? := hg.block b hlt (by rcases hne with h | h; rw [ha] at h; simpa [blockOf] using h; rw [h]; simp)
    exact .inr ⟨b, off, ha, hB, Nat.lt_of_lt_of_le hlt hg.size, fun j hj => (World.cell?_of_block (a := ⟨b, off + j, none⟩) hbl).trans (hc j hj),
      fun j hj => ⟨by rw [World.cell?_of_block (a := ⟨b, off + j, none⟩) hbl]; exact (hs j hj).1, by rw [World.frozen?_of_block (a := ⟨b, off + j, none⟩) hbl]; exact (hs j hj).2⟩⟩
theorem Rd.kept {row : Option Nat} (h : Rd w sz a n cap xs) (hg : w.grownBy w' row) (hne : blockOf a ≠ row ∨ row = none) : Rd w' sz a n cap xs := by
  obtain ⟨h1, h2, h3, h4⟩ := h
  refine ⟨h1, h2, h3, ?_⟩
  rcases h4 with h4 | ⟨b, off, ha, hlt, hc⟩
  · exact .inl h4
  · refine .inr ⟨b, off, ha, Nat.lt_of_lt_of_le hlt hg.size, fun j hj => ?_⟩
    · have hbl : w'.heap[b]? = w.heap[b]? := hg.block b hlt (by rcases hne with h | h; rw [ha] at h; simpa [blockOf] using h; rw [h]; simp)
      exact (World.cell?_of_block (a := ⟨b, off + j, none⟩) hbl).trans (hc j hj)
theorem Row.alloc (h : Row B w sz a n cap xs) (o : Obj) : Row B (w.alloc o) sz a n cap xs := h.below ((Below.refl _ _).alloc (Nat.le_refl _) _)
theorem Rd.alloc (h : Rd w sz a n cap xs) (o : Obj) : Rd (w.alloc o) sz a n cap xs := h.below ((Below.refl _ _).alloc (Nat.le_refl _) _)
theorem Row.drew (h : Row B w sz a n cap xs) : Row B w.drew sz a n cap xs := h.below (Below.refl _ _).drew
theorem Rd.drew (h : Rd w sz a n cap xs) : Rd w.drew sz a n cap xs := h.below (Below.refl _ _).drew
theorem Row.lt (h : Row B w sz a n cap xs) : ∀ k, blockOf a = some k → B ≤ k ∧ k < w.heap.size := by
  intro k hk
  rcases h.2.2.2 with ⟨rfl, _⟩ | ⟨b, off, rfl, hB, hlt, _⟩
  · simp [blockOf] at hk
  · simp [blockOf] at hk; omega
/-- An empty slice of a new array without room. -/
theorem Row.empty (w : World) (e : TypeId) (sz : Nat) : Row w.heap.size (w.alloc (.cells #[] e)) sz (some ⟨w.heap.size, 0, none⟩) 0 0 [] :=
  ⟨by simp, Nat.le_refl _, Nat.zero_le _, .inr ⟨_, _, rfl, Nat.le_refl _, by simp, fun j hj => by simp at hj, fun j hj => by simp at hj⟩⟩
/-- What the kit's own words say of an owned row. -/
theorem Row.of_owns {e : TypeId} {v : Value} (h : w.ownsRow B e sz v n xs) : ∃ a cap, v = .slice a n cap ∧ Row B w sz a n cap xs := by
  obtain ⟨h1, h2⟩ := h
  rcases h2 with ⟨rfl, rfl⟩ | ⟨g, cap, cur, rfl, hg, hh, hn, hm, hs, ht⟩
  · exact ⟨none, 0, rfl, h1, Nat.le_refl _, Nat.zero_le _, .inl ⟨rfl, rfl⟩⟩
  · refine ⟨_, cap, rfl, h1, hn, hm, .inr ⟨g, 0, rfl, hg, (Array.getElem?_eq_some_iff.1 hh).1, fun j hj => ?_, fun j hj => ?_⟩⟩
    · rw [cell_of_row w g (0 + j) cur e (0, 0) hh, Nat.zero_add, ← ht, List.getElem?_take]
      rw [h1] at hj
      rw [if_pos hj]; simp
    · constructor
      · rw [cell_of_row w g (0 + j) cur e (0, 0) hh, Nat.zero_add]
        simp [hs, hj]
      · simp [World.frozen?, hh]
/-- 's[k:]' -/
theorem Row.drop (h : Row B w sz a n cap xs) {k : Nat} (hk : k ≤ n) {b off : Nat} (ha : a = some ⟨b, off, none⟩) : Row B w sz (some ⟨b, off + k * sz, none⟩) (n - k) (cap - k) (xs.drop (k * sz)) := by
  obtain ⟨h1, h2, h3, h4⟩ := h
  refine ⟨by rw [List.length_drop, h1, Nat.sub_mul], by omega, by omega, ?_⟩
  rcases h4 with ⟨h5, _⟩ | ⟨b', off', ha', hB, hlt, hc, hs⟩
  · rw [h5] at ha; cases ha
  · rw [ha] at ha'
    cases ha'
    have hkn : k * sz ≤ n * sz := Nat.mul_le_mul_right _ hk
    refine .inr ⟨b, _, rfl, hB, hlt, fun j hj => ?_, fun j hj => ?_⟩
    · rw [List.length_drop] at hj
      rw [Nat.add_assoc, hc (k * sz + j) (by omega), List.getElem?_drop]
    · rw [Nat.sub_mul] at hj
      rw [Nat.add_assoc]
      exact hs (k * sz + j) (by omega)
theorem Rd.drop (h : Rd w sz a n cap xs) {k : Nat} (hk : k ≤ n) {b off : Nat} (ha : a = some ⟨b, off, none⟩) : Rd w sz (some ⟨b, off + k * sz, none⟩) (n - k) (cap - k) (xs.drop (k * sz)) := by
  obtain ⟨h1, h2, h3, h4⟩ := h
  refine ⟨by rw [List.length_drop, h1, Nat.sub_mul], by omega, by omega, ?_⟩
  rcases h4 with ⟨h5, _⟩ | ⟨b', off', ha', hlt, hc⟩
  · exact .inl ⟨by omega, fun h => by cases h⟩
  · rw [ha] at ha'
    cases ha'
    have hkn : k * sz ≤ n * sz := Nat.mul_le_mul_right _ hk
    refine .inr ⟨b, _, rfl, hlt, fun j hj => ?_⟩
    rw [List.length_drop] at hj
    rw [Nat.add_assoc, hc (k * sz + j) (by omega), List.getElem?_drop]
/-- 's[:k]' and 's[:k:c]' -/
theorem Row.take (h : Row B w sz a n cap xs) {k c : Nat} (hk : k ≤ n) (hkc : k ≤ c) (hc : c ≤ cap) : Row B w sz a k c (xs.take (k * sz)) := by
  obtain ⟨h1, h2, h3, h4⟩ := h
  have hkn : k * sz ≤ n * sz := Nat.mul_le_mul_right _ hk
  refine ⟨by rw [List.length_take, h1]; omega, hkc, by omega, ?_⟩
  rcases h4 with ⟨h5, h6⟩ | ⟨b, off, ha, hB, hlt, hcs, hs⟩
  · exact .inl ⟨h5, by omega⟩
  · refine .inr ⟨b, off, ha, hB, hlt, fun j hj => ?_, fun j hj => hs j (Nat.lt_of_lt_of_le hj (Nat.mul_le_mul_right _ hc))⟩
    rw [List.length_take] at hj
    rw [hcs j (by omega), List.getElem?_take, if_pos (by omega)]
theorem Rd.take (h : Rd w sz a n cap xs) {k c : Nat} (hk : k ≤ n) (hkc : k ≤ c) (hc : c ≤ cap) : Rd w sz a k c (xs.take (k * sz)) := by
  obtain ⟨h1, h2, h3, h4⟩ := h
  have hkn : k * sz ≤ n * sz := Nat.mul_le_mul_right _ hk
  refine ⟨by rw [List.length_take, h1]; omega, hkc, by omega, ?_⟩
  rcases h4 with ⟨h5, h6⟩ | ⟨b, off, ha, hlt, hcs⟩
  · exact .inl ⟨by omega, fun h => by have := h6 h; omega⟩
  · refine .inr ⟨b, off, ha, hlt, fun j hj => ?_⟩
    rw [List.length_take] at hj
    rw [hcs j (by omega), List.getElem?_take, if_pos (by omega)]
/-- The address of 's[l:]', m the capacity: at l = m Go keeps the old one. -/
def slAt (a : Option Addr) (l m s : Nat) : Option Addr := if m = l then a else a.map (fun x => x.add (l * s))
theorem Row.from (h : Row B w sz a n cap xs) {k : Nat} (hk : k ≤ n) : Row B w sz (slAt a k cap sz) (n - k) (cap - k) (xs.drop (k * sz)) := by
  have hle := h.2.1
  rcases h.2.2.2 with ⟨rfl, rfl⟩ | ⟨b, off, rfl, _⟩
  · obtain rfl : n = 0 := by omega
    obtain rfl : k = 0 := by omega
    simpa [slAt] using h
  · by_cases hc : cap = k
    · obtain rfl : n = k := by omega
      rw [slAt, if_pos hc, Nat.sub_self, hc, Nat.sub_self]
      have := h.take (k := 0) (c := 0) (Nat.zero_le _) (Nat.le_refl _) (Nat.zero_le _)
      rw [List.drop_of_length_le (by rw [h.1]; exact Nat.le_refl _)]
      simpa using this
    · rw [slAt, if_neg hc]
      simp only [Option.map_some, Addr.add_lit]
      exact h.drop hk rfl
theorem slAt_none (a : Option Addr) (l m s : Nat) : slAt a l m s = none ↔ a = none := by
  unfold slAt
  split
  · exact Iff.rfl
  · simp
theorem Rd.from (h : Rd w sz a n cap xs) {k : Nat} (hk : k ≤ n) : Rd w sz (slAt a k cap sz) (n - k) (cap - k) (xs.drop (k * sz)) := by
  obtain ⟨h1, h2, h3, h4⟩ := h
  by_cases hkn : n = k
  · subst hkn
    refine ⟨by rw [List.length_drop, h1]; simp, by omega, by omega, .inl ⟨by omega, fun h => ?_⟩⟩
    rw [slAt_none] at h
    rcases h4 with ⟨h5, h6⟩ | ⟨b, off, ha, _⟩
    · have := h6 h; omega
    · rw [ha] at h; cases h
  · rcases h4 with ⟨h5, h6⟩ | ⟨b, off, rfl, hr⟩
    · omega
    · rw [slAt, if_neg (by omega)]
      simp only [Option.map_some, Addr.add_lit]
      exact Rd.drop ⟨h1, h2, h3, .inr ⟨b, off, rfl, hr⟩⟩ hk rfl
/-- A store at cell j of the row. -/
theorem Row.set (h : Row B w sz a n cap xs) {b off : Nat} (ha : a = some ⟨b, off, none⟩) {j : Nat} (u : Value) : Row B (w.setCell ⟨b, off + j, none⟩ u) sz a n cap (xs.set j u) := by
  obtain ⟨h1, h2, h3, h4⟩ := h
  refine ⟨by simpa using h1, h2, h3, ?_⟩
  rcases h4 with ⟨h5, _⟩ | ⟨b', off', ha', hB, hlt, hc, hs⟩
  · rw [h5] at ha; cases ha
  · rw [ha] at ha'
    cases ha'
    have hsz : (w.setCell ⟨b, off + j, none⟩ u).heap.size = w.heap.size := by simp [World.setCell]
    refine .inr ⟨b, off, ha, hB, by omega, fun i hi => ?_, fun i hi => ⟨?_, by rw [World.frozen?_setCell]; exact (hs i hi).2⟩⟩
    · rw [List.length_set] at hi
      by_cases hij : i = j
      · subst hij
        rw [World.cell?_setCell_same' _ _ _ (by rw [hc i hi]; simp [hi])]
        simp [hi]
      · rw [World.cell?_setCell_other _ _ _ _ (by first | (simp; done) | (simp; omega)), hc i hi, List.getElem?_set_ne (fun e => hij e.symm)]
    · by_cases hij : i = j
      · subst hij
        rw [World.cell?_setCell_same' _ _ _ (hs i hi).1]; rfl
      · rw [World.cell?_setCell_other _ _ _ _ (by first | (simp; done) | (simp; omega))]; exact (hs i hi).1
end

theorem heap_setCells (g : Nat) : ∀ (vs : List Value) (o : Nat) (w : World) (k : Nat), k ≠ g → (w.setCells g o vs).heap[k]? = w.heap[k]?
  | [], _, _, _, _ => rfl
  | v :: r, o, w, k, h => by rw [World.setCells, heap_setCells g r (o + 1) _ k h]; exact Below.heap_setCell _ _ _ _ h
theorem size_setCells (g : Nat) : ∀ (vs : List Value) (o : Nat) (w : World), (w.setCells g o vs).heap.size = w.heap.size
  | [], _, _ => rfl
  | v :: r, o, w => by rw [World.setCells, size_setCells g r]; simp [World.setCell]
theorem tape_setCells (g : Nat) : ∀ (vs : List Value) (o : Nat) (w : World), (w.setCells g o vs).tape = w.tape
  | [], _, _ => rfl
  | v :: r, o, w => by rw [World.setCells, tape_setCells g r]; rfl
theorem isSome_setCells (g : Nat) : ∀ (vs : List Value) (o : Nat) (w : World) (x : Addr), (w.cell? x).isSome = true → ((w.setCells g o vs).cell? x).isSome = true
  | [], _, _, _, h => h
  | v :: r, o, w, x, h => by
    rw [World.setCells]
    refine isSome_setCells g r (o + 1) _ x ?_
    by_cases e : (⟨g, o, none⟩ : Addr) = x
    · subst e; rw [World.cell?_setCell_same' _ _ _ h]; rfl
    · rw [World.cell?_setCell_other _ _ _ _ e]; exact h
theorem grownBy_setCells (w : World) (g o : Nat) (vs : List Value) : w.grownBy (w.setCells g o vs) (some g) :=
  ⟨World.os_setCells _ _ _ _, tape_setCells _ _ _ _, World.output_setCells _ _ _ _, by rw [size_setCells]; exact Nat.le_refl _, fun k _ hk => heap_setCells g _ _ _ k (fun e => hk (by rw [e]))⟩
section
variable {P : Program} {w : World}

/-- 'append', whatever is appended, onto a row that the call may write on. -/
theorem run_append_row (t tx ty e : TypeId) (i : TypeInfo) (z : Value) (size bytes : Nat) (ht : P.underlying t = some (.slice e)) (hi : P.info? e = some i) (hz : i.zero = some z) (hsize : i.size = size) (hby : i.bytes = bytes) (hzs : z.cells.size = size)
    {B : Nat} {a : Option Addr} {n cap : Nat} {xs : List Value} (h : Row B w size a n cap xs) (x : Value) (m : Nat) (news : List Value) (hs : Src P size tx x m news w)
    (h63 : n + m ≤ maxLen) (hbytes : (n + m) * bytes ≤ 140737488355328) (hB : B ≤ w.heap.size) :
    ∃ a' cap' w', (Builtin.append_ #[t, tx] ty #[.slice a n cap, x]).run P w = .ok (.slice a' (n + m) cap') w' ∧ Row B w' size a' (n + m) cap' (xs ++ news) ∧ w.grownBy w' (blockOf a) ∧ (blockOf a' = blockOf a ∨ blockOf a' = some w.heap.size) := by
  obtain ⟨h1, h2, h3, h4⟩ := h
  subst hsize
  subst hby
  have hlen : (xs ++ news).length = (n + m) * i.size := by rw [List.length_append, h1, hs.newsLen, Nat.add_mul]
  by_cases hroom : n + m ≤ cap
  · rcases h4 with ⟨rfl, rfl⟩ | ⟨b, off, rfl, hBb, hlt, hc, hsp⟩
    · obtain rfl : n = 0 := by omega
      obtain rfl : m = 0 := by omega
      have hn : news = [] := List.eq_nil_of_length_eq_zero (by rw [hs.newsLen]; simp)
      subst hn
      refine ⟨none, 0, w, run_append_nothing w t tx ty e i ht hi none 0 0 (Nat.le_refl _) x hs, ⟨hlen, Nat.le_refl _, Nat.zero_le _, .inl ⟨rfl, rfl⟩⟩, ⟨rfl, rfl, rfl, Nat.le_refl _, fun _ _ _ => rfl⟩, .inl rfl⟩
    · have hnl := hs.newsLen
      have hle : (n + m) * i.size ≤ cap * i.size := Nat.mul_le_mul_right _ hroom
      rw [Nat.add_mul] at hle
      have hsp' : ∀ j, j < news.length → (w.cell? ⟨b, off + n * i.size + j, none⟩).isSome = true := fun j hj => by
        rw [Nat.add_assoc]; exact (hsp (n * i.size + j) (by omega)).1
      have hfr' : ∀ j, j < news.length → w.frozen? ⟨b, off + n * i.size + j, none⟩ = false := fun j hj => by
        rw [Nat.add_assoc]; exact (hsp (n * i.size + j) (by omega)).2
      have hr := run_append_room_src (P := P) w t tx ty e i ht hi b off n cap x m news hs hroom hsp' hfr'
      refine ⟨some ⟨b, off, none⟩, cap, _, hr, ⟨hlen, hroom, h3, .inr ⟨b, off, rfl, hBb, by rw [size_setCells]; exact hlt, fun j hj => ?_, fun j hj => ⟨?_, ?_⟩⟩⟩, grownBy_setCells _ _ _ _, .inl rfl⟩
      · by_cases hj1 : j < xs.length
        · rw [World.cell?_setCells_out b news _ w ⟨b, off + j, none⟩ (fun _ _ => .inl (by simp only; omega)), hc j hj1, List.getElem?_append_left hj1]
        · have hj2 : j - n * i.size < news.length := by rw [List.length_append] at hj; omega
          have := World.cell?_setCells_in b news (off + n * i.size) w hsp' (j - n * i.size) hj2
          rw [show off + n * i.size + (j - n * i.size) = off + j by omega] at this
          rw [this, List.getElem?_append_right (by omega), h1]
          simp [hj2]
      · exact isSome_setCells b news _ w _ (hsp j hj).1
      · rw [World.frozen?_setCells]; exact (hsp j hj).2
  · have hold : (Builtin.firstCells i.size n (.slice a n cap)).run P w.drew = .ok xs.toArray w.drew := by
      rcases h4 with ⟨rfl, rfl⟩ | ⟨b, off, rfl, hBb, hlt, hc, hsp⟩
      · obtain rfl : n = 0 := by omega
        have hx : xs = [] := List.eq_nil_of_length_eq_zero (by rw [h1]; simp)
        subst hx
        exact run_firstCells_none w.drew i.size 0 0 0
      · refine run_firstCells_some w.drew i.size n _ n cap xs h1 (fun j u hj => ?_)
        rw [Addr.add_lit]
        have hjl := (List.getElem?_eq_some_iff.1 hj).1
        show w.cell? _ = _
        rw [hc j hjl, hj]
    have hr := run_append_grow_src (P := P) w t tx ty e i z ht hi hz a n cap xs hold x m news hs (by omega) (by simp only [maxLen] at h63; omega) (growslice_fits (by omega) hbytes)
    have hge := grownCap_ge w (n + m) cap e
    have hcm : grownCap w (n + m) cap e ≤ maxLen := grownCap_le_maxLen w (n + m) cap e h63
    have hown : (w.drew.alloc (.cells ((xs ++ news).toArray ++ Builtin.zeroCells z.cells (grownCap w (n + m) cap e - (n + m))) e)).ownsRow B e i.size (.slice (some ⟨w.heap.size, 0, none⟩) (n + m) (grownCap w (n + m) cap e)) (n + m) (xs ++ news) := by
      refine ⟨hlen, .inr ⟨w.heap.size, _, _, rfl, hB, heap_alloc_new w.drew _, hge, hcm, ?_, ?_⟩⟩
      · simp only [Array.size_append, List.size_toArray, size_zeroCells, hzs, hlen, ← Nat.add_mul]
        congr 1
        omega
      · simp only [Array.toList_append]
        rw [← hlen]
        exact List.take_left
    obtain ⟨a', cap', he, hrow⟩ := Row.of_owns hown
    cases he
    exact ⟨_, _, _, hr, hrow, ⟨rfl, rfl, rfl, by simp, fun k hk _ => Below.heap_alloc w.drew _ k hk⟩, .inr rfl⟩
/-- What is appended is one element of one cell, laid for it just now. -/
theorem Src.one {tx e' : TypeId} (hk : P.underlying tx = some (.slice e')) (v : Value) (e : TypeId) (h1 : v.oneCell' = true) : Src P 1 tx (.slice (some ⟨w.heap.size, 0, none⟩) 1 1) 1 [v] (w.alloc (.cells #[v] e)) :=
  Src.ofSlice _ hk _ 1 1 [v] (by simp) (fun j u hj => by
    rw [Addr.add_lit]
    cases j with
    | zero => simp at hj; subst hj; simp
    | succ j => simp at hj) (by simpa using h1)
/-- .. its address as the walk spells it. -/
theorem Src.oneAt {tx e' : TypeId} (hk : P.underlying tx = some (.slice e')) (v : Value) (e : TypeId) (h1 : v.oneCell' = true) {g : Nat} (hg : g = w.heap.size) : Src P 1 tx (.slice (some ⟨g, 0, none⟩) 1 1) 1 [v] (w.alloc (.cells #[v] e)) := by
  subst hg
  exact Src.one hk v e h1
/-- What is appended is a slice that reads as some cells. -/
theorem Src.ofRd {size : Nat} {tx e' : TypeId} (hk : P.underlying tx = some (.slice e')) {a : Option Addr} {n c : Nat} {news : List Value} (h : Rd w size a n c news) (h1 : ∀ u ∈ news, u.oneCell' = true) : Src P size tx (.slice a n c) n news w := by
  obtain ⟨hl, hn, _, h4⟩ := h
  rcases h4 with ⟨rfl, h6⟩ | ⟨b, off, rfl, hlt, hc⟩
  · have hx : news = [] := List.eq_nil_of_length_eq_zero (by rw [hl]; simp)
    subst hx
    cases a with
    | none => exact Src.ofNil w hk c
    | some a => exact Src.ofSlice w hk a 0 c [] (by simp) (fun j u hj => by simp at hj) h1
  · refine Src.ofSlice w hk _ n c news hl (fun j u hj => ?_) h1
    rw [Addr.add_lit]
    have hjl := (List.getElem?_eq_some_iff.1 hj).1
    rw [hc j hjl, hj]
end

/-- The same, for the walk. -/
theorem wpList_append_row {P : Program} {w : World} {ops : Array Oper} {rest : List Oper} {o : Oper} {ac : Act} {Q : Exit → Act → World → Prop} (hgd : o.guard = none) (s x : Operand) (t tx : TypeId)
    (hop : o.op = Op.call { callee := Callee.builtin Builtin.append, args := #[s, x], argTypes := #[t, tx] })
    (e : TypeId) (i : TypeInfo) (z : Value) (size bytes : Nat) (ht : P.underlying t = some (.slice e)) (hi : P.info? e = some i) (hz : i.zero = some z) (hsize : i.size = size) (hby : i.bytes = bytes) (hzs : z.cells.size = size)
    {B : Nat} {a : Option Addr} {n cap : Nat} {xs : List Value} (hs : ac.eval s = .slice a n cap) (h : Row B w size a n cap xs) (m : Nat) (news : List Value) (hsrc : Src P size tx (ac.eval x) m news w)
    (h63 : n + m ≤ maxLen) (hbytes : (n + m) * bytes ≤ 140737488355328) (hB : B ≤ w.heap.size)
    (hk : ∀ a' cap' w', Row B w' size a' (n + m) cap' (xs ++ news) → w.grownBy w' (blockOf a) → (blockOf a' = blockOf a ∨ blockOf a' = some w.heap.size) → wpList P ops Q rest (ac.put o.dst (.slice a' (n + m) cap')) w') :
    wpList P ops Q (o :: rest) ac w := by
  refine wpList_plain hgd fun K hK' => ?_
  obtain ⟨a', cap', w', hr, h1, h2, h3⟩ := run_append_row (P := P) (w := w) t tx o.type e i z size bytes ht hi hz hsize hby hzs h (ac.eval x) m news hsrc h63 hbytes hB
  unfold Oper.wp
  simp [execOp, hop, resolve, invoke, builtin, hs, hr, Result.andThen]
  exact hK' _ _ (hk a' cap' w' h1 h2 h3)
theorem grownBy_setAt (w : World) (a : Addr) (u : Value) : w.grownBy (w.setCell a u) (some a.block) :=
  ⟨rfl, rfl, rfl, by simp [World.setCell], fun _ _ hk => Below.heap_setCell _ _ _ _ (fun e => hk (by rw [e]))⟩
theorem Row.put {B : Nat} {W : World} {sz : Nat} {a : Option Addr} {n c : Nat} {xs : List Value} (h : Row B W sz a n c xs) {p : Addr} (hb : p.block < B) (u : Value) : Row B (W.setCell p u) sz a n c xs :=
  h.kept (grownBy_setAt _ _ _) (.inl (fun e => by have := h.lt _ e; omega))
/-- Element k of a row of one-cell elements: it may be read and written. -/
theorem Row.at1 {B : Nat} {w : World} {a : Option Addr} {n c : Nat} {xs : List Value} (h : Row B w 1 a n c xs) {k : Nat} (hk : k < n) :
    ∃ b off, a = some ⟨b, off, none⟩ ∧ B ≤ b ∧ b < w.heap.size ∧ (∃ v, w.cell? ⟨b, off + k, none⟩ = some v) ∧ w.frozen? ⟨b, off + k, none⟩ = false := by
  obtain ⟨h1, h2, h3, h4⟩ := h
  rcases h4 with ⟨_, h5⟩ | ⟨b, off, ha, hB, hb, hc, hs⟩
  · omega
  · obtain ⟨h5, h6⟩ := hs k (by omega)
    exact ⟨b, off, ha, hB, hb, Option.isSome_iff_exists.1 h5, h6⟩
/-- A cell, a mark behind a call that turns nothing that lay. -/
theorem cellAt {W w1 : World} (hb : Below W.heap.size W w1) {b o : Nat} {v : Value} (h : W.cell? ⟨b, o, none⟩ = some v) : w1.cell? ⟨b, o, none⟩ = some v :=
  (hb.cell (p := ⟨b, o, none⟩) (World.block_lt_of_cell? _ _ h)).trans h
end Go.Proofs.YtbldidiibkcelaaGreatDoor

/-
  Who owns which block: a map from blocks to parts; a step that turns the blocks of some parts only, and new ones. Not a statement of the seat.
-/
namespace Go.Proofs.YtbldidiibkcelaaGreatDoor
open Go.RowKit

abbrev Own := Nat → Option Nat
def Own.give (r : Own) (b k : Nat) : Own := fun x => if x = b then some k else r x
theorem Own.give_same (r : Own) (b k : Nat) : r.give b k b = some k := by simp [Own.give]
theorem Own.give_other (r : Own) {b k x : Nat} (h : x ≠ b) : r.give b k x = r x := by simp [Own.give, h]
/-- what is not laid has no owner -/
def Bnd (w : World) (r : Own) : Prop := ∀ b, w.heap.size ≤ b → r b = none
structure Step (K : Nat → Prop) (w : World) (r : Own) (w' : World) (r' : Own) : Prop where
  os : w'.os = w.os
  tape : w'.tape = w.tape
  output : w'.output = w.output
  size : w.heap.size ≤ w'.heap.size
  old : ∀ b, b < w.heap.size → r' b = r b
  new : ∀ b, w.heap.size ≤ b → ∀ k, r' b = some k → K k
  bound : Bnd w' r'
  keep : ∀ b, b < w.heap.size → (∀ k, r b = some k → ¬ K k) → w'.heap[b]? = w.heap[b]?
section
variable {K K' : Nat → Prop} {w w1 w2 w' : World} {r r1 r2 r' : Own}

theorem Step.refl (K : Nat → Prop) (h : Bnd w r) : Step K w r w r :=
  ⟨rfl, rfl, rfl, Nat.le_refl _, fun _ _ => rfl, fun b hb k hk => (by rw [h b hb] at hk; cases hk), h, fun _ _ _ => rfl⟩
theorem Step.trans (h : Step K w r w1 r1) (g : Step K w1 r1 w2 r2) : Step K w r w2 r2 where
  os := g.os.trans h.os
  tape := g.tape.trans h.tape
  output := g.output.trans h.output
  size := Nat.le_trans h.size g.size
  old := fun b hb => (g.old b (Nat.lt_of_lt_of_le hb h.size)).trans (h.old b hb)
  new := fun b hb k hk => by
    by_cases e : b < w1.heap.size
    · rw [g.old b e] at hk; exact h.new b hb k hk
    · exact g.new b (by omega) k hk
  bound := g.bound
  keep := fun b hb hn => (g.keep b (Nat.lt_of_lt_of_le hb h.size) (fun k hk => hn k (by rw [← h.old b hb]; exact hk))).trans (h.keep b hb hn)
theorem Step.mono (h : Step K w r w' r') (hk : ∀ k, K k → K' k) : Step K' w r w' r' :=
  ⟨h.os, h.tape, h.output, h.size, h.old, fun b hb k e => hk _ (h.new b hb k e), h.bound, fun b hb hn => h.keep b hb (fun k e f => hn k e (hk _ f))⟩
theorem Step.below (h : Step K w r w' r') {B : Nat} (hB : B ≤ w.heap.size) (hn : ∀ b, b < B → r b = none) : Below B w w' :=
  ⟨h.os, h.tape, h.output, h.size, fun b hb => h.keep b (by omega) (fun k e => by rw [hn b hb] at e; cases e)⟩
theorem Step.none (h : Step K w r w' r') {B : Nat} (hB : B ≤ w.heap.size) (hn : ∀ b, b < B → r b = none) : ∀ b, b < B → r' b = none :=
  fun b hb => by rw [h.old b (by omega)]; exact hn b hb
/-- from here on by a law that turns nothing that lay -/
theorem Step.calm (h : Step K w r w1 r1) (g : Below w1.heap.size w1 w2) : Step K w r w2 r1 :=
  h.trans ⟨g.os, g.tape, g.output, g.size, fun _ _ => rfl, fun b hb k hk => (by rw [h.bound b hb] at hk; cases hk), fun b hb => h.bound b (Nat.le_trans g.size hb), fun b hb _ => g.block b hb⟩
theorem Step.alloc (h : Step K w r w1 r1) (o : Obj) : Step K w r (w1.alloc o) r1 := h.calm ((Below.refl _ _).alloc (Nat.le_refl _) _)
theorem Step.drew (h : Step K w r w1 r1) : Step K w r w1.drew r1 := h.calm (Below.refl _ _).drew
/-- by a law that turns one block at most -/
theorem Step.grown (h : Step K w r w1 r1) {row : Option Nat} (g : w1.grownBy w2 row) (hr : ∀ b, row = some b → b < w.heap.size → ∃ k, r b = some k ∧ K k) : Step K w r w2 r1 where
  os := g.os.trans h.os
  tape := g.tape.trans h.tape
  output := g.output.trans h.output
  size := Nat.le_trans h.size g.size
  old := h.old
  new := h.new
  bound := fun b hb => h.bound b (Nat.le_trans g.size hb)
  keep := fun b hb hn => by
    rw [g.block b (Nat.lt_of_lt_of_le hb h.size) (fun e => by obtain ⟨k, h1, h2⟩ := hr b e.symm hb; exact hn k h1 h2)]
    exact h.keep b hb hn
theorem Step.put (h : Step K w r w1 r1) {p : Addr} (u : Value) (hr : p.block < w.heap.size → ∃ k, r p.block = some k ∧ K k) : Step K w r (w1.setCell p u) r1 :=
  h.grown (row := some p.block) (grownBy_setAt _ _ _) (fun b e => by cases e; exact hr)
/-- a new block gets its owner -/
theorem Step.give (h : Step K w r w1 r1) {b k : Nat} (hb : w.heap.size ≤ b) (hb1 : b < w1.heap.size) (hk : K k) : Step K w r w1 (r1.give b k) where
  os := h.os
  tape := h.tape
  output := h.output
  size := h.size
  old := fun x hx => by rw [Own.give_other _ (by omega)]; exact h.old x hx
  new := fun x hx j hj => by
    by_cases e : x = b
    · subst e; rw [Own.give_same] at hj; cases hj; exact hk
    · rw [Own.give_other _ e] at hj; exact h.new x hx j hj
  bound := fun x hx => by rw [Own.give_other _ (by omega)]; exact h.bound x hx
  keep := h.keep
end

theorem lt_same {w w' : World} {b : Nat} (h : w'.heap[b]? = w.heap[b]?) (hb : b < w.heap.size) : b < w'.heap.size := by
  by_cases e : b < w'.heap.size
  · exact e
  · rw [Array.getElem?_eq_none (by omega : w'.heap.size ≤ b), Array.getElem?_eq_getElem hb] at h
    cases h
/-- the block b holds the cells cs, and may be written -/
def Blk (w : World) (b : Nat) (cs : List Value) : Prop := b < w.heap.size ∧ ∀ j, j < cs.length → w.cell? ⟨b, j, none⟩ = cs[j]? ∧ w.frozen? ⟨b, j, none⟩ = false
section
variable {w w' : World} {b : Nat} {cs : List Value}
theorem Blk.lt (h : Blk w b cs) : b < w.heap.size := h.1
theorem Blk.cell (h : Blk w b cs) (j : Nat) {v : Value} (hv : cs[j]? = some v) : w.cell? ⟨b, j, none⟩ = some v := by
  rw [(h.2 j (List.getElem?_eq_some_iff.1 hv).1).1, hv]
theorem Blk.free (h : Blk w b cs) (j : Nat) (hv : j < cs.length) : w.frozen? ⟨b, j, none⟩ = false := (h.2 j hv).2
theorem Blk.same (h : Blk w b cs) (hb : w'.heap[b]? = w.heap[b]?) : Blk w' b cs := by
  refine ⟨?_, fun j hj => ⟨(World.cell?_of_block (a := ⟨b, j, none⟩) hb).trans (h.2 j hj).1, (World.frozen?_of_block (a := ⟨b, j, none⟩) hb).trans (h.2 j hj).2⟩⟩
  exact lt_same hb h.1
theorem Blk.below (h : Blk w b cs) (g : Below w.heap.size w w') : Blk w' b cs := h.same (g.block b h.1)
theorem Blk.alloc (h : Blk w b cs) (o : Obj) : Blk (w.alloc o) b cs := h.below ((Below.refl _ _).alloc (Nat.le_refl _) _)
theorem Blk.grown (h : Blk w b cs) {row : Option Nat} (g : w.grownBy w' row) (hn : row ≠ some b) : Blk w' b cs := h.same (g.block b h.1 (fun e => hn e.symm))
theorem Blk.other (h : Blk w b cs) {p : Addr} (u : Value) (hn : p.block ≠ b) : Blk (w.setCell p u) b cs := h.grown (grownBy_setAt _ _ _) (fun e => hn (by cases e; rfl))
theorem Blk.set (h : Blk w b cs) {j : Nat} (u : Value) : Blk (w.setCell ⟨b, j, none⟩ u) b (cs.set j u) := by
  refine ⟨by simpa [World.setCell] using h.1, fun i hi => ⟨?_, by rw [World.frozen?_setCell]; exact (h.2 i (by simpa using hi)).2⟩⟩
  rw [List.length_set] at hi
  by_cases e : i = j
  · subst e
    rw [World.cell?_setCell_same' _ _ _ (by rw [(h.2 i hi).1]; simp [hi])]
    simp [hi]
  · rw [World.cell?_setCell_other _ _ _ _ (by first | (simp; done) | (simp; omega)), (h.2 i hi).1, List.getElem?_set_ne (fun x => e x.symm)]
theorem World.frozen?_new (w : World) (cs : Array Value) (t : TypeId) (j : Nat) : (w.alloc (.cells cs t)).frozen? ⟨w.heap.size, j, none⟩ = false := by
  have h : (w.alloc (.cells cs t)).heap[w.heap.size]? = some (.cells cs t) := by
    show (w.heap.push (.cells cs t))[w.heap.size]? = _
    simp
  unfold World.frozen?
  rw [h]
  simp
theorem Blk.new (w : World) (cs : Array Value) (t : TypeId) : Blk (w.alloc (.cells cs t)) w.heap.size cs.toList :=
  ⟨by simp, fun j hj => ⟨by simp, World.frozen?_new w cs t j⟩⟩
end

section
variable {K : Nat → Prop} {w w' : World} {r r' : Own}
theorem Blk.step {b k : Nat} {cs : List Value} (h : Blk w b cs) (g : Step K w r w' r') (hb : r b = some k) (hk : ¬ K k) : Blk w' b cs := h.same (g.keep b h.1 (fun j hj => by rw [hb] at hj; cases hj; exact hk))
/-- the slice reads as some cells; its block has no owner, or the owner k -/
def RdK (w : World) (r : Own) (o : Option Nat) (sz : Nat) (a : Option Addr) (n cap : Nat) (xs : List Value) : Prop := Rd w sz a n cap xs ∧ (n = 0 ∨ ∀ b, blockOf a = some b → r b = o)
theorem RdK.step {o : Option Nat} {sz : Nat} {a : Option Addr} {n cap : Nat} {xs : List Value} (h : RdK w r o sz a n cap xs) (g : Step K w r w' r') (ho : ∀ k, o = some k → ¬ K k) : RdK w' r' o sz a n cap xs := by
  obtain ⟨⟨h1, h2, h3, h4⟩, h5⟩ := h
  rcases h4 with h4 | ⟨b, off, rfl, hlt, hc⟩
  · exact ⟨⟨h1, h2, h3, .inl h4⟩, .inl h4.1⟩
  · rcases h5 with rfl | h5
    · exact ⟨⟨h1, h2, h3, .inl ⟨rfl, fun e => by cases e⟩⟩, .inl rfl⟩
    · have hb := h5 b rfl
      have hs := g.keep b hlt (fun k hk => ho k (by rw [← hb, hk]))
      exact ⟨⟨h1, h2, h3, .inr ⟨b, off, rfl, Nat.lt_of_lt_of_le hlt g.size, fun j hj => (World.cell?_of_block (a := ⟨b, off + j, none⟩) hs).trans (hc j hj)⟩⟩,
        .inr (fun x hx => by cases hx; rw [g.old b hlt]; exact hb)⟩
def RowK (w : World) (r : Own) (k : Nat) (sz : Nat) (a : Option Addr) (n cap : Nat) (xs : List Value) : Prop := Row 0 w sz a n cap xs ∧ ∀ b, blockOf a = some b → r b = some k
theorem RowK.rd {k sz : Nat} {a : Option Addr} {n cap : Nat} {xs : List Value} (h : RowK w r k sz a n cap xs) : RdK w r (some k) sz a n cap xs := ⟨h.1.rd, .inr h.2⟩
theorem Row.same {B sz : Nat} {a : Option Addr} {n cap : Nat} {xs : List Value} (h : Row B w sz a n cap xs) (hb : ∀ b, blockOf a = some b → w'.heap[b]? = w.heap[b]?) : Row B w' sz a n cap xs := by
  obtain ⟨h1, h2, h3, h4⟩ := h
  refine ⟨h1, h2, h3, ?_⟩
  rcases h4 with h4 | ⟨b, off, rfl, hB, hlt, hc, hs⟩
  · exact .inl h4
  · have hbl := hb b rfl
    refine .inr ⟨b, off, rfl, hB, ?_, fun j hj => (World.cell?_of_block (a := ⟨b, off + j, none⟩) hbl).trans (hc j hj),
      fun j hj => ⟨by rw [World.cell?_of_block (a := ⟨b, off + j, none⟩) hbl]; exact (hs j hj).1, by rw [World.frozen?_of_block (a := ⟨b, off + j, none⟩) hbl]; exact (hs j hj).2⟩⟩
    exact lt_same hbl hlt
theorem RowK.step {k sz : Nat} {a : Option Addr} {n cap : Nat} {xs : List Value} (h : RowK w r k sz a n cap xs) (g : Step K w r w' r') (hk : ¬ K k) : RowK w' r' k sz a n cap xs :=
  ⟨h.1.same (fun b hb => g.keep b (h.1.lt b hb).2 (fun j hj => by rw [h.2 b hb] at hj; cases hj; exact hk)), fun b hb => by rw [g.old b (h.1.lt b hb).2]; exact h.2 b hb⟩
end
end Go.Proofs.YtbldidiibkcelaaGreatDoor

/-
  What the program's parser and printer compute, in plain Lean: no program in sight. Not a statement of the seat.
-/
namespace Go.Proofs.YtbldidiibkcelaaGreatDoor

abbrev Bs := List UInt8
/-- a row of values: each node a value with its children, and the row's rest -/
inductive Fo where
  | nil
  | cons (k i b : Int) (t : Bs) (kids rest : Fo)
namespace Fo
def len : Fo → Nat
  | nil => 0
  | cons _ _ _ _ _ r => r.len + 1
def app : Fo → Fo → Fo
  | nil, g => g
  | cons k i b t ks r, g => cons k i b t ks (r.app g)
theorem len_app : ∀ (f g : Fo), (f.app g).len = f.len + g.len
  | nil, g => by simp [app, len]
  | cons _ _ _ _ _ r, g => by simp only [app, len, len_app r g]; omega
theorem app_nil : ∀ (f : Fo), f.app nil = f
  | nil => rfl
  | cons _ _ _ _ _ r => by simp only [app, app_nil r]
theorem app_assoc : ∀ (f g h : Fo), (f.app g).app h = f.app (g.app h)
  | nil, _, _ => rfl
  | cons _ _ _ _ _ r, g, h => by simp only [app, app_assoc r g h]
end Fo

/-- a value by itself -/
structure Dt where
  k : Int
  i : Int
  b : Int
  t : Bs
  l : Fo
def Dt.zero : Dt := ⟨0, 0, 0, [], .nil⟩
def Dt.fo (d : Dt) : Fo := .cons d.k d.i d.b d.t d.l .nil
/-! ### The code's reader: S the text -/
def hexD : Bs := [48, 49, 50, 51, 52, 53, 54, 55, 56, 57, 97, 98, 99, 100, 101, 102]
/-- the decimal digits, of a number below 10 ^ f -/
def decF : Nat → Nat → Bs
  | 0, _ => []
  | f + 1, u => if u < 10 then [UInt8.ofNat (48 + u)] else decF f (u / 10) ++ [UInt8.ofNat (48 + u % 10)]
def dec (n : Int) : Bs := if n < 0 then 45 :: decF 20 n.natAbs else decF 20 n.toNat
theorem decF_eq : ∀ (f u : Nat), u < 10 ^ f → 0 < f → decF f u = Go.Lib.decDigits u
  | 0, _, _, h => absurd h (by omega)
  | f + 1, u, h, _ => by
    rw [Go.Lib.decDigits, decF]
    by_cases h1 : u < 10
    · rw [if_pos h1, dif_pos h1]
    · rw [if_neg h1, dif_neg h1]
      have h2 : u / 10 < 10 ^ f := by rw [Nat.pow_succ] at h; omega
      have h3 : 0 < f := by
        rcases Nat.eq_zero_or_pos f with rfl | h3
        · simp at h; omega
        · exact h3
      rw [decF_eq f _ h2 h3]
theorem dec_eq (n : Int) (h0 : -9223372036854775808 ≤ n) (h1 : n ≤ 9223372036854775807) : dec n = Go.Lib.itoa n := by
  unfold dec Go.Lib.itoa
  split
  · rw [decF_eq 20 _ (by omega) (by omega)]
  · rw [decF_eq 20 _ (by omega) (by omega)]
/-! ### Valid: how many parts, how deep -/
/-- a value has the fields of its kind alone, its parts aside -/
def fitsM (k i b : Int) (t : Bs) (n : Nat) : Bool :=
  let whole := k == 1 || k == 2 || k == 6 || k == 10 || k == 11
  let bits := k == 3
  let word := k == 4 || k == 5 || k == 7 || k == 10
  (0 ≤ k && k ≤ 13) && (k != 6 || i == 0 || i == 1) && (k != 11 || 1 ≤ i)
    && (whole || i == 0) && (bits || b == 0) && (word || t == []) && t.length ≤ 65535
    && (if k == 8 then true else if k == 9 then n == 2 else if k == 11 then n == 1 else n == 0)
/-- look over a row: the parts and the greatest depth behind it, and whether all fit -/
def lookM : Fo → Nat → Nat → Nat → Bool × Nat × Nat
  | .nil, _, p, m => (true, p, m)
  | .cons k i b t kids rest, deep, p, m =>
    if 4096 < p + 1 ∨ 16 < deep ∨ fitsM k i b t kids.len = false then (false, p + 1, max m deep)
    else
      match lookM kids (deep + 1) (p + 1) (max m deep) with
      | (true, p', m') => lookM rest deep p' m'
      | (false, p', m') => (false, p', m')
/-! ### Print -/
def hex2 (c : UInt8) : Bs := [hexD.getD (c.toNat / 16) 0, hexD.getD (c.toNat % 16) 0]
def pairsM (s : Bs) : Bs := s.flatMap hex2
def quoteOne (c : UInt8) : Bs := if c = 34 ∨ c = 92 then [92, c] else if c < 32 ∨ 126 < c then 92 :: 120 :: hex2 c else [c]
def quoteM (s : Bs) : Bs := 34 :: (s.flatMap quoteOne ++ [34])
/-- n digits of a hex number -/
def hexN : Nat → Nat → Bs
  | 0, _ => []
  | n + 1, b => hexN n (b / 16) ++ [hexD.getD (b % 16) 0]
/-- one value's text, its parts' text given -/
def oneM (k i b : Int) (t : Bs) (kids : Bs) : Bs :=
  if k = 0 then [110, 105, 108]
  else if k = 1 then dec i
  else if k = 2 then 35 :: dec i
  else if k = 3 then 102 :: hexN 16 b.toNat
  else if k = 4 then quoteM t
  else if k = 5 then 64 :: quoteM t
  else if k = 6 then (if i = 1 then [116, 114, 117, 101] else [102, 97, 108, 115, 101])
  else if k = 7 then 37 :: pairsM t
  else if k = 8 then 91 :: (kids ++ [93])
  else if k = 9 then 40 :: (kids ++ [41])
  else if k = 10 then 33 :: (dec i ++ quoteM t)
  else if k = 11 then 38 :: (dec i ++ 40 :: (kids ++ [41]))
  else if k = 12 then [38, 110, 105, 108]
  else if k = 13 then [123, 125]
  else []
/-- a row's text; fst: nothing stands ahead -/
def rowP : Bool → Fo → Bs
  | _, .nil => []
  | fst, .cons k i b t kids rest => (if fst then [] else [44, 32]) ++ oneM k i b t (rowP true kids) ++ rowP false rest
def printM (d : Dt) : Bs := oneM d.k d.i d.b d.t (rowP true d.l)
end Go.Proofs.YtbldidiibkcelaaGreatDoor

/-
  What stands and what turns ('Kept'); how a row of values lies in memory ('At', 'FoAt'). Not a statement of the seat.
-/
namespace Go.Proofs.YtbldidiibkcelaaGreatDoor
open Go.RowKit

/-- all blocks but those in N stand -/
structure Kept (N : Nat → Prop) (w w' : World) : Prop where
  os : w'.os = w.os
  tape : w'.tape = w.tape
  output : w'.output = w.output
  size : w.heap.size ≤ w'.heap.size
  block : ∀ b, b < w.heap.size → ¬ N b → w'.heap[b]? = w.heap[b]?
section
variable {N N' : Nat → Prop} {w w1 w2 w' : World}
theorem Kept.refl (N : Nat → Prop) (w : World) : Kept N w w := ⟨rfl, rfl, rfl, Nat.le_refl _, fun _ _ _ => rfl⟩
theorem Kept.trans (h : Kept N w w1) (g : Kept N w1 w2) : Kept N w w2 :=
  ⟨g.os.trans h.os, g.tape.trans h.tape, g.output.trans h.output, Nat.le_trans h.size g.size, fun b hb hn => (g.block b (Nat.lt_of_lt_of_le hb h.size) hn).trans (h.block b hb hn)⟩
theorem Kept.mono (h : Kept N w w') (hn : ∀ b, b < w.heap.size → N b → N' b) : Kept N' w w' := ⟨h.os, h.tape, h.output, h.size, fun b hb hb' => h.block b hb (fun e => hb' (hn b hb e))⟩
theorem Kept.of {B : Nat} (h : Below B w w') (hn : ∀ b, b < w.heap.size → ¬ N b → b < B) : Kept N w w' :=
  ⟨h.os, h.tape, h.output, h.size, fun b hb hb' => h.block b (hn b hb hb')⟩
theorem Kept.of' (h : Below w.heap.size w w') : Kept N w w' := .of h (fun _ hb _ => hb)
theorem Kept.below {B : Nat} (h : Kept N w w') (hB : B ≤ w.heap.size) (hn : ∀ b, b < B → ¬ N b) : Below B w w' :=
  ⟨h.os, h.tape, h.output, h.size, fun b hb => h.block b (by omega) (hn b hb)⟩
/-- from here on by a law that turns nothing that lay -/
theorem Kept.calm (h : Kept N w w1) (g : Below w1.heap.size w1 w2) : Kept N w w2 := h.trans (.of' g)
theorem Kept.alloc (h : Kept N w w1) (o : Obj) : Kept N w (w1.alloc o) := h.calm ((Below.refl _ _).alloc (Nat.le_refl _) _)
theorem Kept.drew (h : Kept N w w1) : Kept N w w1.drew := h.calm (Below.refl _ _).drew
theorem Kept.grown (h : Kept N w w1) {row : Option Nat} (g : w1.grownBy w2 row) (hr : ∀ b, row = some b → b < w.heap.size → N b) : Kept N w w2 :=
  ⟨g.os.trans h.os, g.tape.trans h.tape, g.output.trans h.output, Nat.le_trans h.size g.size, fun b hb hn => by
    rw [g.block b (Nat.lt_of_lt_of_le hb h.size) (fun e => hn (hr b e.symm hb))]
    exact h.block b hb hn⟩
theorem Kept.put (h : Kept N w w1) {p : Addr} (u : Value) (hr : p.block < w.heap.size → N p.block) : Kept N w (w1.setCell p u) :=
  h.grown (row := some p.block) (grownBy_setAt _ _ _) (fun b e hb => by cases e; exact hr hb)
/-- new blocks count for nothing -/
theorem Kept.tail (h : Kept N w w1) (g : Kept N' w1 w2) (hn : ∀ b, b < w.heap.size → N' b → N b) : Kept N w w2 :=
  ⟨g.os.trans h.os, g.tape.trans h.tape, g.output.trans h.output, Nat.le_trans h.size g.size, fun b hb hb' => (g.block b (Nat.lt_of_lt_of_le hb h.size) (fun e => hb' (hn b hb e))).trans (h.block b hb hb')⟩
theorem Blk.keep {b : Nat} {cs : List Value} (h : Blk w b cs) (g : Kept N w w') (hb : ¬ N b) : Blk w' b cs := h.same (g.block b h.1 hb)
theorem Row.keep {B sz : Nat} {a : Option Addr} {n cap : Nat} {xs : List Value} (h : Row B w sz a n cap xs) (g : Kept N w w') (hb : ∀ b, blockOf a = some b → ¬ N b) : Row B w' sz a n cap xs :=
  h.same (fun b e => g.block b (h.lt b e).2 (hb b e))
end

/-- a row of values in memory, by its cells: each child's row in a block that is in S -/
def At (S : Nat → Prop) (w : World) : Fo → List Value → Prop
  | .nil, cs => cs = []
  | .cons k i b t kids rest, cs => ∃ a n cap ks cs', cs = .int .i64 k :: .int .i64 i :: .int .u64 b :: .string ⟨t.toArray⟩ :: .slice a n cap :: cs' ∧
      (Rd w 5 a n cap ks ∧ (∀ x, 0 < n → blockOf a = some x → S x)) ∧ At S w kids ks ∧ At S w rest cs'
/-- .. by its slice -/
def FoAt (S : Nat → Prop) (w : World) (f : Fo) (a : Option Addr) (n cap : Nat) : Prop := ∃ cs, (Rd w 5 a n cap cs ∧ (∀ x, 0 < n → blockOf a = some x → S x)) ∧ At S w f cs
/-- a value by itself -/
def DtAt (S : Nat → Prop) (w : World) (d : Dt) (v : Value) : Prop := ∃ a n cap, v = .agg #[.int .i64 d.k, .int .i64 d.i, .int .u64 d.b, .string ⟨d.t.toArray⟩, .slice a n cap] ∧ FoAt S w d.l a n cap
section
variable {S S' : Nat → Prop} {w w' : World}
theorem Rd.same0 {sz : Nat} {a : Option Addr} {n cap : Nat} {xs : List Value} (h : Rd w sz a n cap xs) (hb : ∀ b, 0 < n → blockOf a = some b → b < w.heap.size → w'.heap[b]? = w.heap[b]?) : Rd w' sz a n cap xs := by
  obtain ⟨h1, h2, h3, h4⟩ := h
  refine ⟨h1, h2, h3, ?_⟩
  rcases h4 with h4 | ⟨b, off, rfl, hlt, hc⟩
  · exact .inl h4
  · by_cases hn : n = 0
    · exact .inl ⟨hn, fun e => by cases e⟩
    · have hbl := hb b (by omega) rfl hlt
      exact .inr ⟨b, off, rfl, lt_same hbl hlt, fun j hj => (World.cell?_of_block (a := ⟨b, off + j, none⟩) hbl).trans (hc j hj)⟩
theorem At.len : ∀ (f : Fo) {cs : List Value}, At S w f cs → cs.length = f.len * 5
  | .nil, cs, h => by cases h; rfl
  | .cons k i b t kids rest, cs, h => by
    obtain ⟨a, n, cap, ks, cs', rfl, _, _, h⟩ := h
    have := At.len rest h
    simp only [List.length_cons, Fo.len]
    omega
theorem At.same : ∀ (f : Fo) {cs : List Value}, At S w f cs → (∀ b, S b → b < w.heap.size → w'.heap[b]? = w.heap[b]?) → (∀ b, S b → b < w.heap.size → S' b) → At S' w' f cs
  | .nil, _, h, _, _ => h
  | .cons k i b t kids rest, cs, h, hb, hs => by
    obtain ⟨a, n, cap, ks, cs', rfl, ⟨h1, h2⟩, h3, h4⟩ := h
    refine ⟨a, n, cap, ks, cs', rfl, ⟨h1.same0 (fun x hn hx hl => hb x (h2 x hn hx) hl), fun x hn hx => hs x (h2 x hn hx) ?_⟩, At.same kids h3 hb hs, At.same rest h4 hb hs⟩
    rcases h1.2.2.2 with ⟨h5, _⟩ | ⟨b, off, rfl, hlt, _⟩
    · omega
    · cases hx; exact hlt
theorem At.app : ∀ (f : Fo) {g : Fo} {cs cs' : List Value}, At S w f cs → At S w g cs' → At S w (f.app g) (cs ++ cs')
  | .nil, _, _, _, h, h' => by cases h; exact h'
  | .cons k i b t kids rest, g, cs, cs', h, h' => by
    obtain ⟨a, n, cap, ks, cs1, rfl, h1, h3, h4⟩ := h
    exact ⟨a, n, cap, ks, cs1 ++ cs', rfl, h1, h3, At.app rest h4 h'⟩
theorem FoAt.len {f : Fo} {a : Option Addr} {n cap : Nat} (h : FoAt S w f a n cap) : f.len = n := by
  obtain ⟨cs, ⟨h1, _⟩, h2⟩ := h
  have := At.len f h2
  have := h1.1
  omega
theorem FoAt.same {f : Fo} {a : Option Addr} {n cap : Nat} (h : FoAt S w f a n cap) (hb : ∀ b, S b → b < w.heap.size → w'.heap[b]? = w.heap[b]?) (hs : ∀ b, S b → b < w.heap.size → S' b) : FoAt S' w' f a n cap := by
  obtain ⟨cs, ⟨h1, h2⟩, h3⟩ := h
  refine ⟨cs, ⟨h1.same0 (fun x hn hx hl => hb x (h2 x hn hx) hl), fun x hn hx => hs x (h2 x hn hx) ?_⟩, At.same f h3 hb hs⟩
  rcases h1.2.2.2 with ⟨h5, _⟩ | ⟨b, off, rfl, hlt, _⟩
  · omega
  · cases hx; exact hlt
theorem DtAt.same {d : Dt} {v : Value} (h : DtAt S w d v) (hb : ∀ b, S b → b < w.heap.size → w'.heap[b]? = w.heap[b]?) (hs : ∀ b, S b → b < w.heap.size → S' b) : DtAt S' w' d v := by
  obtain ⟨a, n, cap, rfl, h⟩ := h
  exact ⟨a, n, cap, rfl, h.same hb hs⟩
theorem FoAt.nil (S : Nat → Prop) (w : World) : FoAt S w .nil none 0 0 := ⟨[], ⟨Rd.nil w 5, fun _ h => absurd h (by omega)⟩, rfl⟩
theorem DtAt.zero (S : Nat → Prop) (w : World) (k i b : Int) (t : Bs) : DtAt S w ⟨k, i, b, t, .nil⟩ (.agg #[.int .i64 k, .int .i64 i, .int .u64 b, .string ⟨t.toArray⟩, .slice none 0 0]) := ⟨none, 0, 0, rfl, FoAt.nil S w⟩
end
end Go.Proofs.YtbldidiibkcelaaGreatDoor

/-
  Small things of the data, for this seat. Not a statement of the seat.
-/
namespace Go.Proofs.YtbldidiibkcelaaGreatDoor
open Go.RowKit

def N1 (rb : Nat) : Nat → Prop := fun x => x = rb
theorem below_drewN (B : Nat) (w : World) : ∀ m, Below B w (w.drewN m)
  | 0 => Below.refl _ _
  | _ + 1 => ⟨rfl, rfl, rfl, Nat.le_refl _, fun _ _ => rfl⟩
/-- the least number of which R holds -/
theorem exists_least {R : Nat → Prop} (h : ∃ n, R n) : ∃ n, R n ∧ ∀ m, R m → n ≤ m := by
  obtain ⟨n, hn⟩ := h
  induction n using Nat.strongRecOn with
  | _ n ih =>
    by_cases hm : ∃ m, m < n ∧ R m
    · obtain ⟨m, h1, h2⟩ := hm
      exact ih m h1 h2
    · exact ⟨n, hn, fun m h => by
        by_cases hl : m < n
        · exact absurd ⟨m, hl, h⟩ hm
        · omega⟩
open Classical in
noncomputable def least (R : Nat → Prop) : Nat := if h : ∃ n, R n then Classical.choose (exists_least h) else 0
theorem least_spec {R : Nat → Prop} (h : ∃ n, R n) : R (least R) := by
  unfold least
  rw [dif_pos h]
  exact (Classical.choose_spec (exists_least h)).1
theorem least_le {R : Nat → Prop} {n : Nat} (h : R n) : least R ≤ n := by
  unfold least
  rw [dif_pos ⟨n, h⟩]
  exact (Classical.choose_spec (exists_least ⟨n, h⟩)).2 n h
theorem datumInfo : (Tryz.prog.info? 25).map (fun i => (i.zero, i.size, i.bytes)) = some (some (.agg #[.int .i64 0, .int .i64 0, .int .u64 0, .string ⟨#[]⟩, .slice none 0 0]), 5, 64) := by kernel_rfl
def V5 (k i b : Int) (t : ByteArray) (l : Option Addr) (n c : Nat) : List Value := [.int .i64 k, .int .i64 i, .int .u64 b, .string t, .slice l n c]
theorem V5_one (k i b : Int) (t : ByteArray) (l : Option Addr) (n c : Nat) : ∀ u ∈ V5 k i b t l n c, u.oneCell' = true := by
  intro u hu
  simp only [V5, List.mem_cons, List.mem_nil_iff, or_false] at hu
  rcases hu with rfl | rfl | rfl | rfl | rfl <;> rfl
end Go.Proofs.YtbldidiibkcelaaGreatDoor

