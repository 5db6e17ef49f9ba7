/-
  The walk through an error value, by any visitor: what it comes to; the step to what is wrapped (walk). Not a statement of the seat.
-/
import Derived.Test.YtbldidiibkcelaaGreatDoorTEWalk7
import Derived.Test.YtbldidiibkcelaaGreatDoorTEJoinP
namespace Go.Proofs.YtbldidiibkcelaaGreatDoor
open Go.RowKit

section
variable {σ : Type} (st : σ → World → Prop) (N : σ → Nat → Prop) (step : σ → Et → List Int → σ × Bool)
/-- a row of errors is visited -/
def visL : Eo → σ → List Int → Nat → σ × Bool
  | .nil, s, _, _ => (s, true)
  | .cons k i c t b cs ks rest, s, way, j =>
    if (if k = 0 then (s, true) else if (step s ⟨k, i, c, t, b, cs, ks⟩ (way ++ [(j : Int)])).2 = true then visL ks (step s ⟨k, i, c, t, b, cs, ks⟩ (way ++ [(j : Int)])).1 (way ++ [(j : Int)]) 0 else ((step s ⟨k, i, c, t, b, cs, ks⟩ (way ++ [(j : Int)])).1, false)).2 = true
    then visL rest (if k = 0 then (s, true) else if (step s ⟨k, i, c, t, b, cs, ks⟩ (way ++ [(j : Int)])).2 = true then visL ks (step s ⟨k, i, c, t, b, cs, ks⟩ (way ++ [(j : Int)])).1 (way ++ [(j : Int)]) 0 else ((step s ⟨k, i, c, t, b, cs, ks⟩ (way ++ [(j : Int)])).1, false)).1 way (j + 1)
    else ((if k = 0 then (s, true) else if (step s ⟨k, i, c, t, b, cs, ks⟩ (way ++ [(j : Int)])).2 = true then visL ks (step s ⟨k, i, c, t, b, cs, ks⟩ (way ++ [(j : Int)])).1 (way ++ [(j : Int)]) 0 else ((step s ⟨k, i, c, t, b, cs, ks⟩ (way ++ [(j : Int)])).1, false)).1, false)
/-- .. one error -/
def vis1 (s : σ) (e : Et) (way : List Int) : σ × Bool := if e.k = 0 then (s, true) else if (step s e way).2 = true then visL step e.l (step s e way).1 way 0 else ((step s e way).1, false)
theorem visL_cons (k i c : Int) (t : Bs) (b : Dt) (cs : List Int) (ks rest : Eo) (s : σ) (way : List Int) (j : Nat) : visL step (.cons k i c t b cs ks rest) s way j = if (vis1 step s ⟨k, i, c, t, b, cs, ks⟩ (way ++ [(j : Int)])).2 = true then visL step rest (vis1 step s ⟨k, i, c, t, b, cs, ks⟩ (way ++ [(j : Int)])).1 way (j + 1) else ((vis1 step s ⟨k, i, c, t, b, cs, ks⟩ (way ++ [(j : Int)])).1, false) := by
  rw [visL]
  rfl
theorem visL_one (k i c : Int) (t : Bs) (b : Dt) (cs : List Int) (ks : Eo) (s : σ) (way : List Int) (j : Nat) : visL step (.cons k i c t b cs ks .nil) s way j = vis1 step s ⟨k, i, c, t, b, cs, ks⟩ (way ++ [(j : Int)]) := by
  rw [visL_cons]
  rcases h : vis1 step s ⟨k, i, c, t, b, cs, ks⟩ (way ++ [(j : Int)]) with ⟨s1, b1⟩
  cases b1 <;> simp [visL]
/-- a visit has turned the state, and nothing else -/
def VK (s s' : σ) (w w' : World) : Prop := st s' w' ∧ Kept (N s) w w' ∧ ∀ x, N s' x → N s x ∨ w.heap.size ≤ x
/-- the states stay while nothing old is turned, and lie in what is there -/
def VOK : Prop := (∀ s w w', st s w → Below w.heap.size w w' → st s w') ∧ ∀ s w x, st s w → N s x → x < w.heap.size
variable {st N step}
theorem VK.refl {s : σ} {w : World} (h : st s w) : VK st N s s w w := ⟨h, Kept.refl _ _, fun _ h => .inl h⟩
theorem VK.trans {s s1 s2 : σ} {w w1 w2 : World} (h : VK st N s s1 w w1) (g : VK st N s1 s2 w1 w2) : VK st N s s2 w w2 := by
  refine ⟨g.1, h.2.1.tail g.2.1 (fun x hx hn => ?_), fun x hx => ?_⟩
  · rcases h.2.2 x hn with h1 | h1
    · exact h1
    · omega
  · rcases g.2.2 x hx with h1 | h1
    · exact h.2.2 x h1
    · exact .inr (Nat.le_trans h.2.1.size h1)
theorem VK.s' {s s1 : σ} {w w1 : World} (h : VK st N s s1 w w1) : st s1 w1 := h.1
theorem VK.k {s s1 : σ} {w w1 : World} (h : VK st N s s1 w w1) : Kept (N s) w w1 := h.2.1
theorem VK.calm {s s1 : σ} {w w1 w2 : World} (hO : VOK st N) (h : VK st N s s1 w w1) (hB : Below w1.heap.size w1 w2) : VK st N s s1 w w2 := ⟨hO.1 _ _ _ h.1 hB, h.2.1.calm hB, h.2.2⟩
theorem VK.ahead {s s1 : σ} {w w1 w2 : World} (hB : Below w.heap.size w w1) (h : VK st N s s1 w1 w2) : VK st N s s1 w w2 :=
  ⟨h.1, (Kept.of' (N := N s) hB).tail h.2.1 (fun _ _ h => h), fun x hx => (h.2.2 x hx).imp id (fun h1 => Nat.le_trans hB.size h1)⟩
theorem VK.notN {s s1 : σ} {w w1 : World} (h : VK st N s s1 w w1) {x : Nat} (hx : x < w.heap.size) (hn : ¬ N s x) : ¬ N s1 x := fun e => by
  rcases h.2.2 x e with h1 | h1
  · exact hn h1
  · omega
theorem VK.blk {s s1 : σ} {w w1 : World} {b : Nat} {vs : List Value} (h : VK st N s s1 w w1) (hb : Blk w b vs) (hn : ¬ N s b) : Blk w1 b vs := hb.keep h.2.1 hn
theorem EVAt.vk {S : Nat → Prop} {s s1 : σ} {w w1 : World} {e : Et} {v : Value} (hv : EVAt S (N s) w e v) (h : VK st N s s1 w w1) (hS : ∀ x, S x → x < w.heap.size ∧ ¬ N s x) : EVAt S (N s1) w1 e v := by
  obtain ⟨bl, bn, bc, cl, cn, cc, l, n, cap, q, p, h1, h2, h3, h4⟩ := hv
  exact ⟨bl, bn, bc, cl, cn, cc, l, n, cap, q, p, h1, h2.same (fun x hx _ => h.2.1.block x (hS x hx).1 (hS x hx).2) (fun x hx _ => hx), fun e => ⟨h.blk (h3 e).1 (h3 e).2, h.notN (h3 e).1.1 (h3 e).2⟩, fun e => ⟨h.blk (h4 e).1 (h4 e).2, h.notN (h4 e).1.1 (h4 e).2⟩⟩
theorem SN.vk {S : Nat → Prop} {s s1 : σ} {w w1 : World} (h : VK st N s s1 w w1) (hS : ∀ x, S x → x < w.heap.size ∧ ¬ N s x) : ∀ x, S x → x < w1.heap.size ∧ ¬ N s1 x := fun x hx => ⟨Nat.lt_of_lt_of_le (hS x hx).1 h.2.1.size, h.notN (hS x hx).1 (hS x hx).2⟩
variable (st N step)
variable {st N step}

end
end Go.Proofs.YtbldidiibkcelaaGreatDoor

