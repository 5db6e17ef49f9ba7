/-
  Who owns which block: a map from blocks to parts; a step that turns the blocks of some parts only, and new ones. Not a statement of the seat.
-/
import Derived.Test.YtbldidiibkcelaaGreatDoorSlices
namespace Go.Proofs.YtbldidiibkcelaaGreatDoor
open Go.RowKit

abbrev Own := Nat → Option Nat
def Own.give (r : Own) (b k : Nat) : Own := fun x => if x = b then some k else r x
theorem Own.give_same (r : Own) (b k : Nat) : r.give b k b = some k := by simp [Own.give]
theorem Own.give_other (r : Own) {b k x : Nat} (h : x ≠ b) : r.give b k x = r x := by simp [Own.give, h]
/-- what is not laid has no owner -/
def Bnd (w : World) (r : Own) : Prop := ∀ b, w.heap.size ≤ b → r b = none

structure Step (K : Nat → Prop) (w : World) (r : Own) (w' : World) (r' : Own) : Prop where
  os : w'.os = w.os
  tape : w'.tape = w.tape
  output : w'.output = w.output
  size : w.heap.size ≤ w'.heap.size
  old : ∀ b, b < w.heap.size → r' b = r b
  new : ∀ b, w.heap.size ≤ b → ∀ k, r' b = some k → K k
  bound : Bnd w' r'
  keep : ∀ b, b < w.heap.size → (∀ k, r b = some k → ¬ K k) → w'.heap[b]? = w.heap[b]?

section
variable {K K' : Nat → Prop} {w w1 w2 w' : World} {r r1 r2 r' : Own}

theorem Step.refl (K : Nat → Prop) (h : Bnd w r) : Step K w r w r :=
  ⟨rfl, rfl, rfl, Nat.le_refl _, fun _ _ => rfl, fun b hb k hk => (by rw [h b hb] at hk; cases hk), h, fun _ _ _ => rfl⟩
theorem Step.trans (h : Step K w r w1 r1) (g : Step K w1 r1 w2 r2) : Step K w r w2 r2 where
  os := g.os.trans h.os
  tape := g.tape.trans h.tape
  output := g.output.trans h.output
  size := Nat.le_trans h.size g.size
  old := fun b hb => (g.old b (Nat.lt_of_lt_of_le hb h.size)).trans (h.old b hb)
  new := fun b hb k hk => by
    by_cases e : b < w1.heap.size
    · rw [g.old b e] at hk; exact h.new b hb k hk
    · exact g.new b (by omega) k hk
  bound := g.bound
  keep := fun b hb hn => (g.keep b (Nat.lt_of_lt_of_le hb h.size) (fun k hk => hn k (by rw [← h.old b hb]; exact hk))).trans (h.keep b hb hn)
theorem Step.mono (h : Step K w r w' r') (hk : ∀ k, K k → K' k) : Step K' w r w' r' :=
  ⟨h.os, h.tape, h.output, h.size, h.old, fun b hb k e => hk _ (h.new b hb k e), h.bound, fun b hb hn => h.keep b hb (fun k e f => hn k e (hk _ f))⟩
theorem Step.bnd (h : Step K w r w' r') : Bnd w' r' := h.bound
theorem Step.below (h : Step K w r w' r') {B : Nat} (hB : B ≤ w.heap.size) (hn : ∀ b, b < B → r b = none) : Below B w w' :=
  ⟨h.os, h.tape, h.output, h.size, fun b hb => h.keep b (by omega) (fun k e => by rw [hn b hb] at e; cases e)⟩
theorem Step.none (h : Step K w r w' r') {B : Nat} (hB : B ≤ w.heap.size) (hn : ∀ b, b < B → r b = none) : ∀ b, b < B → r' b = none :=
  fun b hb => by rw [h.old b (by omega)]; exact hn b hb

/-- from here on by a law that turns nothing that lay -/
theorem Step.calm (h : Step K w r w1 r1) (g : Below w1.heap.size w1 w2) : Step K w r w2 r1 :=
  h.trans ⟨g.os, g.tape, g.output, g.size, fun _ _ => rfl, fun b hb k hk => (by rw [h.bound b hb] at hk; cases hk), fun b hb => h.bound b (Nat.le_trans g.size hb), fun b hb _ => g.block b hb⟩
theorem Step.alloc (h : Step K w r w1 r1) (o : Obj) : Step K w r (w1.alloc o) r1 := h.calm ((Below.refl _ _).alloc (Nat.le_refl _) _)
theorem Step.drew (h : Step K w r w1 r1) : Step K w r w1.drew r1 := h.calm (Below.refl _ _).drew
/-- by a law that turns one block at most -/
theorem Step.grown (h : Step K w r w1 r1) {row : Option Nat} (g : w1.grownBy w2 row) (hr : ∀ b, row = some b → b < w.heap.size → ∃ k, r b = some k ∧ K k) : Step K w r w2 r1 where
  os := g.os.trans h.os
  tape := g.tape.trans h.tape
  output := g.output.trans h.output
  size := Nat.le_trans h.size g.size
  old := h.old
  new := h.new
  bound := fun b hb => h.bound b (Nat.le_trans g.size hb)
  keep := fun b hb hn => by
    rw [g.block b (Nat.lt_of_lt_of_le hb h.size) (fun e => by obtain ⟨k, h1, h2⟩ := hr b e.symm hb; exact hn k h1 h2)]
    exact h.keep b hb hn
theorem Step.put (h : Step K w r w1 r1) {p : Addr} (u : Value) (hr : p.block < w.heap.size → ∃ k, r p.block = some k ∧ K k) : Step K w r (w1.setCell p u) r1 :=
  h.grown (row := some p.block) (grownBy_setAt _ _ _) (fun b e => by cases e; exact hr)
/-- a new block gets its owner -/
theorem Step.give (h : Step K w r w1 r1) {b k : Nat} (hb : w.heap.size ≤ b) (hb1 : b < w1.heap.size) (hk : K k) : Step K w r w1 (r1.give b k) where
  os := h.os
  tape := h.tape
  output := h.output
  size := h.size
  old := fun x hx => by rw [Own.give_other _ (by omega)]; exact h.old x hx
  new := fun x hx j hj => by
    by_cases e : x = b
    · subst e; rw [Own.give_same] at hj; cases hj; exact hk
    · rw [Own.give_other _ e] at hj; exact h.new x hx j hj
  bound := fun x hx => by rw [Own.give_other _ (by omega)]; exact h.bound x hx
  keep := h.keep
end

theorem lt_same {w w' : World} {b : Nat} (h : w'.heap[b]? = w.heap[b]?) (hb : b < w.heap.size) : b < w'.heap.size := by
  by_cases e : b < w'.heap.size
  · exact e
  · rw [Array.getElem?_eq_none (by omega : w'.heap.size ≤ b), Array.getElem?_eq_getElem hb] at h
    cases h
/-- the block b holds the cells cs, and may be written -/
def Blk (w : World) (b : Nat) (cs : List Value) : Prop := b < w.heap.size ∧ ∀ j, j < cs.length → w.cell? ⟨b, j, none⟩ = cs[j]? ∧ w.frozen? ⟨b, j, none⟩ = false

section
variable {w w' : World} {b : Nat} {cs : List Value}
theorem Blk.lt (h : Blk w b cs) : b < w.heap.size := h.1
theorem Blk.cell (h : Blk w b cs) (j : Nat) {v : Value} (hv : cs[j]? = some v) : w.cell? ⟨b, j, none⟩ = some v := by
  rw [(h.2 j (List.getElem?_eq_some_iff.1 hv).1).1, hv]
theorem Blk.free (h : Blk w b cs) (j : Nat) (hv : j < cs.length) : w.frozen? ⟨b, j, none⟩ = false := (h.2 j hv).2
theorem Blk.same (h : Blk w b cs) (hb : w'.heap[b]? = w.heap[b]?) : Blk w' b cs := by
  refine ⟨?_, fun j hj => ⟨(World.cell?_of_block (a := ⟨b, j, none⟩) hb).trans (h.2 j hj).1, (World.frozen?_of_block (a := ⟨b, j, none⟩) hb).trans (h.2 j hj).2⟩⟩
  exact lt_same hb h.1
theorem Blk.below (h : Blk w b cs) (g : Below w.heap.size w w') : Blk w' b cs := h.same (g.block b h.1)
theorem Blk.alloc (h : Blk w b cs) (o : Obj) : Blk (w.alloc o) b cs := h.below ((Below.refl _ _).alloc (Nat.le_refl _) _)
theorem Blk.grown (h : Blk w b cs) {row : Option Nat} (g : w.grownBy w' row) (hn : row ≠ some b) : Blk w' b cs := h.same (g.block b h.1 (fun e => hn e.symm))
theorem Blk.other (h : Blk w b cs) {p : Addr} (u : Value) (hn : p.block ≠ b) : Blk (w.setCell p u) b cs := h.grown (grownBy_setAt _ _ _) (fun e => hn (by cases e; rfl))
theorem Blk.set (h : Blk w b cs) {j : Nat} (u : Value) : Blk (w.setCell ⟨b, j, none⟩ u) b (cs.set j u) := by
  refine ⟨by simpa [World.setCell] using h.1, fun i hi => ⟨?_, by rw [World.frozen?_setCell]; exact (h.2 i (by simpa using hi)).2⟩⟩
  rw [List.length_set] at hi
  by_cases e : i = j
  · subst e
    rw [World.cell?_setCell_same' _ _ _ (by rw [(h.2 i hi).1]; simp [hi])]
    simp [hi]
  · rw [World.cell?_setCell_other _ _ _ _ (by first | (simp; done) | (simp; omega)), (h.2 i hi).1, List.getElem?_set_ne (fun x => e x.symm)]
theorem World.frozen?_new (w : World) (cs : Array Value) (t : TypeId) (j : Nat) : (w.alloc (.cells cs t)).frozen? ⟨w.heap.size, j, none⟩ = false := by
  have h : (w.alloc (.cells cs t)).heap[w.heap.size]? = some (.cells cs t) := by
    show (w.heap.push (.cells cs t))[w.heap.size]? = _
    simp
  unfold World.frozen?
  rw [h]
  simp
theorem Blk.new (w : World) (cs : Array Value) (t : TypeId) : Blk (w.alloc (.cells cs t)) w.heap.size cs.toList :=
  ⟨by simp, fun j hj => ⟨by simp, World.frozen?_new w cs t j⟩⟩
end

section
variable {K : Nat → Prop} {w w' : World} {r r' : Own}
theorem Blk.step {b k : Nat} {cs : List Value} (h : Blk w b cs) (g : Step K w r w' r') (hb : r b = some k) (hk : ¬ K k) : Blk w' b cs := h.same (g.keep b h.1 (fun j hj => by rw [hb] at hj; cases hj; exact hk))
theorem Step.oldK (g : Step K w r w' r') {b k : Nat} (hl : b < w.heap.size) (hb : r b = some k) : r' b = some k := by rw [g.old b hl, hb]

/-- the slice reads as some cells; its block has no owner, or the owner k -/
def RdK (w : World) (r : Own) (o : Option Nat) (sz : Nat) (a : Option Addr) (n cap : Nat) (xs : List Value) : Prop := Rd w sz a n cap xs ∧ (n = 0 ∨ ∀ b, blockOf a = some b → r b = o)
theorem RdK.step {o : Option Nat} {sz : Nat} {a : Option Addr} {n cap : Nat} {xs : List Value} (h : RdK w r o sz a n cap xs) (g : Step K w r w' r') (ho : ∀ k, o = some k → ¬ K k) : RdK w' r' o sz a n cap xs := by
  obtain ⟨⟨h1, h2, h3, h4⟩, h5⟩ := h
  rcases h4 with h4 | ⟨b, off, rfl, hlt, hc⟩
  · exact ⟨⟨h1, h2, h3, .inl h4⟩, .inl h4.1⟩
  · rcases h5 with rfl | h5
    · exact ⟨⟨h1, h2, h3, .inl ⟨rfl, fun e => by cases e⟩⟩, .inl rfl⟩
    · have hb := h5 b rfl
      have hs := g.keep b hlt (fun k hk => ho k (by rw [← hb, hk]))
      exact ⟨⟨h1, h2, h3, .inr ⟨b, off, rfl, Nat.lt_of_lt_of_le hlt g.size, fun j hj => (World.cell?_of_block (a := ⟨b, off + j, none⟩) hs).trans (hc j hj)⟩⟩,
        .inr (fun x hx => by cases hx; rw [g.old b hlt]; exact hb)⟩
def RowK (w : World) (r : Own) (k : Nat) (sz : Nat) (a : Option Addr) (n cap : Nat) (xs : List Value) : Prop := Row 0 w sz a n cap xs ∧ ∀ b, blockOf a = some b → r b = some k
theorem RowK.rd {k sz : Nat} {a : Option Addr} {n cap : Nat} {xs : List Value} (h : RowK w r k sz a n cap xs) : RdK w r (some k) sz a n cap xs := ⟨h.1.rd, .inr h.2⟩
theorem Row.same {B sz : Nat} {a : Option Addr} {n cap : Nat} {xs : List Value} (h : Row B w sz a n cap xs) (hb : ∀ b, blockOf a = some b → w'.heap[b]? = w.heap[b]?) : Row B w' sz a n cap xs := by
  obtain ⟨h1, h2, h3, h4⟩ := h
  refine ⟨h1, h2, h3, ?_⟩
  rcases h4 with h4 | ⟨b, off, rfl, hB, hlt, hc, hs⟩
  · exact .inl h4
  · have hbl := hb b rfl
    refine .inr ⟨b, off, rfl, hB, ?_, fun j hj => (World.cell?_of_block (a := ⟨b, off + j, none⟩) hbl).trans (hc j hj),
      fun j hj => ⟨by rw [World.cell?_of_block (a := ⟨b, off + j, none⟩) hbl]; exact (hs j hj).1, by rw [World.frozen?_of_block (a := ⟨b, off + j, none⟩) hbl]; exact (hs j hj).2⟩⟩
    exact lt_same hbl hlt
theorem RowK.step {k sz : Nat} {a : Option Addr} {n cap : Nat} {xs : List Value} (h : RowK w r k sz a n cap xs) (g : Step K w r w' r') (hk : ¬ K k) : RowK w' r' k sz a n cap xs :=
  ⟨h.1.same (fun b hb => g.keep b (h.1.lt b hb).2 (fun j hj => by rw [h.2 b hb] at hj; cases hj; exact hk)), fun b hb => by rw [g.old b (h.1.lt b hb).2]; exact h.2 b hb⟩
end
end Go.Proofs.YtbldidiibkcelaaGreatDoor
