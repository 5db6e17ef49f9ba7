/-
  What stands and what turns ('Kept'); how a row of values lies in memory ('At', 'FoAt'). Not a statement of the seat.
-/
import Derived.Test.YtbldidiibkcelaaGreatDoorOwn
import Derived.Test.YtbldidiibkcelaaGreatDoorPure
namespace Go.Proofs.YtbldidiibkcelaaGreatDoor
open Go.RowKit

/-- all blocks but those in N stand -/
structure Kept (N : Nat → Prop) (w w' : World) : Prop where
  os : w'.os = w.os
  tape : w'.tape = w.tape
  output : w'.output = w.output
  size : w.heap.size ≤ w'.heap.size
  block : ∀ b, b < w.heap.size → ¬ N b → w'.heap[b]? = w.heap[b]?

section
variable {N N' : Nat → Prop} {w w1 w2 w' : World}
theorem Kept.refl (N : Nat → Prop) (w : World) : Kept N w w := ⟨rfl, rfl, rfl, Nat.le_refl _, fun _ _ _ => rfl⟩
theorem Kept.trans (h : Kept N w w1) (g : Kept N w1 w2) : Kept N w w2 :=
  ⟨g.os.trans h.os, g.tape.trans h.tape, g.output.trans h.output, Nat.le_trans h.size g.size, fun b hb hn => (g.block b (Nat.lt_of_lt_of_le hb h.size) hn).trans (h.block b hb hn)⟩
theorem Kept.mono (h : Kept N w w') (hn : ∀ b, b < w.heap.size → N b → N' b) : Kept N' w w' := ⟨h.os, h.tape, h.output, h.size, fun b hb hb' => h.block b hb (fun e => hb' (hn b hb e))⟩
theorem Kept.of {B : Nat} (h : Below B w w') (hn : ∀ b, b < w.heap.size → ¬ N b → b < B) : Kept N w w' :=
  ⟨h.os, h.tape, h.output, h.size, fun b hb hb' => h.block b (hn b hb hb')⟩
theorem Kept.of' (h : Below w.heap.size w w') : Kept N w w' := .of h (fun _ hb _ => hb)
theorem Kept.below {B : Nat} (h : Kept N w w') (hB : B ≤ w.heap.size) (hn : ∀ b, b < B → ¬ N b) : Below B w w' :=
  ⟨h.os, h.tape, h.output, h.size, fun b hb => h.block b (by omega) (hn b hb)⟩
/-- from here on by a law that turns nothing that lay -/
theorem Kept.calm (h : Kept N w w1) (g : Below w1.heap.size w1 w2) : Kept N w w2 := h.trans (.of' g)
theorem Kept.alloc (h : Kept N w w1) (o : Obj) : Kept N w (w1.alloc o) := h.calm ((Below.refl _ _).alloc (Nat.le_refl _) _)
theorem Kept.drew (h : Kept N w w1) : Kept N w w1.drew := h.calm (Below.refl _ _).drew
theorem Kept.grown (h : Kept N w w1) {row : Option Nat} (g : w1.grownBy w2 row) (hr : ∀ b, row = some b → b < w.heap.size → N b) : Kept N w w2 :=
  ⟨g.os.trans h.os, g.tape.trans h.tape, g.output.trans h.output, Nat.le_trans h.size g.size, fun b hb hn => by
    rw [g.block b (Nat.lt_of_lt_of_le hb h.size) (fun e => hn (hr b e.symm hb))]
    exact h.block b hb hn⟩
theorem Kept.put (h : Kept N w w1) {p : Addr} (u : Value) (hr : p.block < w.heap.size → N p.block) : Kept N w (w1.setCell p u) :=
  h.grown (row := some p.block) (grownBy_setAt _ _ _) (fun b e hb => by cases e; exact hr hb)
/-- new blocks count for nothing -/
theorem Kept.tail (h : Kept N w w1) (g : Kept N' w1 w2) (hn : ∀ b, b < w.heap.size → N' b → N b) : Kept N w w2 :=
  ⟨g.os.trans h.os, g.tape.trans h.tape, g.output.trans h.output, Nat.le_trans h.size g.size, fun b hb hb' => (g.block b (Nat.lt_of_lt_of_le hb h.size) (fun e => hb' (hn b hb e))).trans (h.block b hb hb')⟩
theorem Blk.keep {b : Nat} {cs : List Value} (h : Blk w b cs) (g : Kept N w w') (hb : ¬ N b) : Blk w' b cs := h.same (g.block b h.1 hb)
theorem Row.keep {B sz : Nat} {a : Option Addr} {n cap : Nat} {xs : List Value} (h : Row B w sz a n cap xs) (g : Kept N w w') (hb : ∀ b, blockOf a = some b → ¬ N b) : Row B w' sz a n cap xs :=
  h.same (fun b e => g.block b (h.lt b e).2 (hb b e))
end

/-- a row of values in memory, by its cells: each child's row in a block that is in S -/
def At (S : Nat → Prop) (w : World) : Fo → List Value → Prop
  | .nil, cs => cs = []
  | .cons k i b t kids rest, cs => ∃ a n cap ks cs', cs = .int .i64 k :: .int .i64 i :: .int .u64 b :: .string ⟨t.toArray⟩ :: .slice a n cap :: cs' ∧
      (Rd w 5 a n cap ks ∧ (∀ x, 0 < n → blockOf a = some x → S x)) ∧ At S w kids ks ∧ At S w rest cs'
/-- .. by its slice -/
def FoAt (S : Nat → Prop) (w : World) (f : Fo) (a : Option Addr) (n cap : Nat) : Prop := ∃ cs, (Rd w 5 a n cap cs ∧ (∀ x, 0 < n → blockOf a = some x → S x)) ∧ At S w f cs
/-- a value by itself -/
def DtAt (S : Nat → Prop) (w : World) (d : Dt) (v : Value) : Prop := ∃ a n cap, v = .agg #[.int .i64 d.k, .int .i64 d.i, .int .u64 d.b, .string ⟨d.t.toArray⟩, .slice a n cap] ∧ FoAt S w d.l a n cap

section
variable {S S' : Nat → Prop} {w w' : World}
theorem Rd.same0 {sz : Nat} {a : Option Addr} {n cap : Nat} {xs : List Value} (h : Rd w sz a n cap xs) (hb : ∀ b, 0 < n → blockOf a = some b → b < w.heap.size → w'.heap[b]? = w.heap[b]?) : Rd w' sz a n cap xs := by
  obtain ⟨h1, h2, h3, h4⟩ := h
  refine ⟨h1, h2, h3, ?_⟩
  rcases h4 with h4 | ⟨b, off, rfl, hlt, hc⟩
  · exact .inl h4
  · by_cases hn : n = 0
    · exact .inl ⟨hn, fun e => by cases e⟩
    · have hbl := hb b (by omega) rfl hlt
      exact .inr ⟨b, off, rfl, lt_same hbl hlt, fun j hj => (World.cell?_of_block (a := ⟨b, off + j, none⟩) hbl).trans (hc j hj)⟩
theorem At.len : ∀ (f : Fo) {cs : List Value}, At S w f cs → cs.length = f.len * 5
  | .nil, cs, h => by cases h; rfl
  | .cons k i b t kids rest, cs, h => by
    obtain ⟨a, n, cap, ks, cs', rfl, _, _, h⟩ := h
    have := At.len rest h
    simp only [List.length_cons, Fo.len]
    omega
theorem At.same : ∀ (f : Fo) {cs : List Value}, At S w f cs → (∀ b, S b → b < w.heap.size → w'.heap[b]? = w.heap[b]?) → (∀ b, S b → b < w.heap.size → S' b) → At S' w' f cs
  | .nil, _, h, _, _ => h
  | .cons k i b t kids rest, cs, h, hb, hs => by
    obtain ⟨a, n, cap, ks, cs', rfl, ⟨h1, h2⟩, h3, h4⟩ := h
    refine ⟨a, n, cap, ks, cs', rfl, ⟨h1.same0 (fun x hn hx hl => hb x (h2 x hn hx) hl), fun x hn hx => hs x (h2 x hn hx) ?_⟩, At.same kids h3 hb hs, At.same rest h4 hb hs⟩
    rcases h1.2.2.2 with ⟨h5, _⟩ | ⟨b, off, rfl, hlt, _⟩
    · omega
    · cases hx; exact hlt
theorem At.app : ∀ (f : Fo) {g : Fo} {cs cs' : List Value}, At S w f cs → At S w g cs' → At S w (f.app g) (cs ++ cs')
  | .nil, _, _, _, h, h' => by cases h; exact h'
  | .cons k i b t kids rest, g, cs, cs', h, h' => by
    obtain ⟨a, n, cap, ks, cs1, rfl, h1, h3, h4⟩ := h
    exact ⟨a, n, cap, ks, cs1 ++ cs', rfl, h1, h3, At.app rest h4 h'⟩
theorem FoAt.len {f : Fo} {a : Option Addr} {n cap : Nat} (h : FoAt S w f a n cap) : f.len = n := by
  obtain ⟨cs, ⟨h1, _⟩, h2⟩ := h
  have := At.len f h2
  have := h1.1
  omega
theorem FoAt.same {f : Fo} {a : Option Addr} {n cap : Nat} (h : FoAt S w f a n cap) (hb : ∀ b, S b → b < w.heap.size → w'.heap[b]? = w.heap[b]?) (hs : ∀ b, S b → b < w.heap.size → S' b) : FoAt S' w' f a n cap := by
  obtain ⟨cs, ⟨h1, h2⟩, h3⟩ := h
  refine ⟨cs, ⟨h1.same0 (fun x hn hx hl => hb x (h2 x hn hx) hl), fun x hn hx => hs x (h2 x hn hx) ?_⟩, At.same f h3 hb hs⟩
  rcases h1.2.2.2 with ⟨h5, _⟩ | ⟨b, off, rfl, hlt, _⟩
  · omega
  · cases hx; exact hlt
theorem DtAt.same {d : Dt} {v : Value} (h : DtAt S w d v) (hb : ∀ b, S b → b < w.heap.size → w'.heap[b]? = w.heap[b]?) (hs : ∀ b, S b → b < w.heap.size → S' b) : DtAt S' w' d v := by
  obtain ⟨a, n, cap, rfl, h⟩ := h
  exact ⟨a, n, cap, rfl, h.same hb hs⟩
theorem FoAt.nil (S : Nat → Prop) (w : World) : FoAt S w .nil none 0 0 := ⟨[], ⟨Rd.nil w 5, fun _ h => absurd h (by omega)⟩, rfl⟩
theorem DtAt.zero (S : Nat → Prop) (w : World) (k i b : Int) (t : Bs) : DtAt S w ⟨k, i, b, t, .nil⟩ (.agg #[.int .i64 k, .int .i64 i, .int .u64 b, .string ⟨t.toArray⟩, .slice none 0 0]) := ⟨none, 0, 0, rfl, FoAt.nil S w⟩
end
end Go.Proofs.YtbldidiibkcelaaGreatDoor
