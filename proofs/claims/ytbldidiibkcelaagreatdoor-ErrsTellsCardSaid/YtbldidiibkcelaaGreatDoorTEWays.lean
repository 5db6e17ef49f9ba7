/-
  Ways: rows of numbers in a row (plain, and in memory). Not a statement of the seat.
-/
import Derived.Test.YtbldidiibkcelaaGreatDoorTEClone0
import Derived.Test.YtbldidiibkcelaaGreatDoorTEIs16
namespace Go.Proofs.YtbldidiibkcelaaGreatDoor
open Go.RowKit

theorem intInfo3 : (Tryz.prog.info? 3).map (fun i => (i.zero, i.size, i.bytes)) = some (some (.int .i64 0), 1, 8) := by kernel_rfl
theorem sliceInfo49 : (Tryz.prog.info? 49).map (fun i => (i.zero, i.size, i.bytes)) = some (some (.slice none 0 0), 1, 24) := by kernel_rfl
/-- the ways to all errors of a row, from number j on -/
def waysL : Eo → Nat → List (List Int)
  | .nil, _ => []
  | .cons k _ _ _ _ _ ks rest, j => (if k = 0 then [] else [] :: waysL ks 0).map (fun p => (j : Int) :: p) ++ waysL rest (j + 1)
/-- .. of one error -/
def ways1 (k : Int) (kids : Eo) : List (List Int) := if k = 0 then [] else [] :: waysL kids 0
theorem waysL_cons (k i c : Int) (t : Bs) (b : Dt) (cs : List Int) (ks rest : Eo) (j : Nat) : waysL (.cons k i c t b cs ks rest) j = (ways1 k ks).map (fun p => (j : Int) :: p) ++ waysL rest (j + 1) := by rw [waysL]; rfl
theorem waysL_app : ∀ (f g : Eo) (j : Nat), waysL (f.app g) j = waysL f j ++ waysL g (j + f.len)
  | .nil, g, j => by simp [Eo.app, Eo.len, waysL]
  | .cons k i c t b cs ks rest, g, j => by
    rw [Eo.app, waysL_cons, waysL_cons, waysL_app rest g (j + 1), List.append_assoc, Eo.len, show j + 1 + rest.len = j + (rest.len + 1) by omega]
theorem waysL_len : ∀ (f : Eo) (j : Nat), (waysL f j).length ≤ esz f
  | .nil, _ => Nat.le_refl _
  | .cons k i c t b cs ks rest, j => by
    rw [waysL_cons, List.length_append, List.length_map, esz]
    have h1 := waysL_len ks 0
    have h2 := waysL_len rest (j + 1)
    unfold ways1
    split
    · simp; omega
    · simp; omega
theorem waysL_hi : ∀ (f : Eo) (j : Nat), ∀ p ∈ waysL f j, p.length ≤ ehi f
  | .nil, _, p, h => by cases h
  | .cons k i c t b cs ks rest, j, p, h => by
    rw [waysL_cons, List.mem_append, List.mem_map] at h
    rw [ehi]
    rcases h with ⟨p', h1, rfl⟩ | h
    · unfold ways1 at h1
      split at h1
      · cases h1
      · rcases List.mem_cons.1 h1 with rfl | h1
        · simp; omega
        · have := waysL_hi ks 0 p' h1
          simp; omega
    · have := waysL_hi rest (j + 1) p h
      omega
theorem ways1_hi (k : Int) (kids : Eo) : ∀ p ∈ ways1 k kids, p.length ≤ ehi kids := by
  intro p h
  unfold ways1 at h
  split at h
  · cases h
  · rcases List.mem_cons.1 h with rfl | h
    · simp
    · exact waysL_hi kids 0 p h
/-- rows of numbers in memory, by the cells of the row that holds them -/
def WYs (S : Nat → Prop) (w : World) : List (List Int) → List Value → Prop
  | [], vs => vs = []
  | p :: ps, vs => ∃ a n c vs', vs = .slice a n c :: vs' ∧ (Rd w 1 a n c (I8 p) ∧ (∀ x, 0 < n → blockOf a = some x → S x)) ∧ WYs S w ps vs'
section
variable {S S' : Nat → Prop} {w w' : World}
theorem WYs.len : ∀ (ws : List (List Int)) {vs : List Value}, WYs S w ws vs → vs.length = ws.length
  | [], _, h => by cases h; rfl
  | p :: ps, _, h => by
    obtain ⟨a, n, c, vs', rfl, _, h2⟩ := h
    simp [WYs.len ps h2]
theorem WYs.same : ∀ (ws : List (List Int)) {vs : List Value}, WYs S w ws vs → (∀ b, S b → b < w.heap.size → w'.heap[b]? = w.heap[b]?) → (∀ b, S b → b < w.heap.size → S' b) → WYs S' w' ws vs
  | [], _, h, _, _ => h
  | p :: ps, _, h, hb, hs => by
    obtain ⟨a, n, c, vs', rfl, ⟨h1, h2⟩, h3⟩ := h
    exact ⟨a, n, c, vs', rfl, ⟨h1.same0 (fun x hn hx hl => hb x (h2 x hn hx) hl), h1.inS h2 hs⟩, WYs.same ps h3 hb hs⟩
theorem WYs.app : ∀ (ws : List (List Int)) {ws' : List (List Int)} {vs vs' : List Value}, WYs S w ws vs → WYs S w ws' vs' → WYs S w (ws ++ ws') (vs ++ vs')
  | [], _, _, _, h, h' => by cases h; exact h'
  | p :: ps, ws', _, vs', h, h' => by
    obtain ⟨a, n, c, v1, rfl, h1, h2⟩ := h
    exact ⟨a, n, c, v1 ++ vs', rfl, h1, WYs.app ps h2 h'⟩
theorem WYs.get : ∀ (ws : List (List Int)) {vs : List Value} {m : Nat} {p : List Int}, WYs S w ws vs → ws[m]? = some p → ∃ a n c, vs[m]? = some (.slice a n c) ∧ Rd w 1 a n c (I8 p) ∧ (∀ x, 0 < n → blockOf a = some x → S x)
  | [], _, _, _, _, h => by simp at h
  | p :: ps, _, 0, q, h, hq => by
    obtain ⟨a, n, c, vs', rfl, h1, h2⟩ := h
    simp only [List.getElem?_cons_zero, Option.some.injEq] at hq
    subst hq
    exact ⟨a, n, c, rfl, h1⟩
  | p :: ps, _, m + 1, q, h, hq => by
    obtain ⟨a, n, c, vs', rfl, h1, h2⟩ := h
    simp only [List.getElem?_cons_succ] at hq ⊢
    exact WYs.get ps h2 hq
end
/-- a row of ways that has grown by one -/
theorem wy_next {B n cap : Nat} {wr wv w4 : World} {l a4 : Option Addr} {vs : List Value} {ws : List (List Int)} {p : List Int} {la : Option Addr} {ln lc : Nat} {ob : Obj}
    (hRow : Row B wr 1 l n cap vs) (hAt : WYs (fun x => B ≤ x ∧ blockOf l ≠ some x) wr ws vs) (hB : B ≤ wr.heap.size) (hE : Rd wv 1 la ln lc (I8 p)) (hEb : ∀ x, 0 < ln → blockOf la = some x → wr.heap.size ≤ x) (hKv : Below wr.heap.size wr wv)
    (hgr : (wv.alloc ob).grownBy w4 (blockOf l)) (hbk : blockOf a4 = blockOf l ∨ blockOf a4 = some (wv.alloc ob).heap.size) :
    WYs (fun x => B ≤ x ∧ blockOf a4 ≠ some x) w4 (ws ++ [p]) (vs ++ [.slice la ln lc]) := by
  have hl : ∀ x, blockOf l = some x → B ≤ x ∧ x < wr.heap.size := fun x e => hRow.lt x e
  have hs2 := hKv.size
  have hsz : (wv.alloc ob).heap.size = wv.heap.size + 1 := by simp
  have hall : Below wv.heap.size wv (wv.alloc ob) := (Below.refl _ _).alloc (Nat.le_refl _) _
  have h5 : ∀ x, x < wv.heap.size → blockOf l ≠ some x → w4.heap[x]? = wv.heap[x]? := fun x hx hne => by
    rw [hgr.block x (by omega) (fun e => hne e.symm), hall.block x hx]
  have hS : ∀ x, x < wv.heap.size → blockOf l ≠ some x → blockOf a4 ≠ some x := fun x hx hne e => by
    rcases hbk with h | h
    · exact hne (h ▸ e)
    · rw [h] at e; cases e; omega
  refine WYs.app ws ?_ ?_
  · refine WYs.same ws hAt (fun x hx hlt => ?_) (fun x hx hlt => ⟨hx.1, hS x (by omega) hx.2⟩)
    rw [h5 x (by omega) hx.2]
    exact hKv.block x hlt
  · refine ⟨la, ln, lc, [], rfl, ⟨hE.same0 (fun x hn hx hlt => h5 x hlt (fun e => by have := (hl x e).2; have := hEb x hn hx; omega)), ?_⟩, rfl⟩
    exact hE.inS (S := fun x => wr.heap.size ≤ x) hEb (fun x hx hlt => ⟨by omega, hS x hlt (fun e => by have := (hl x e).2; omega)⟩)
/-- what a walk comes to -/
def WYP (ws : List (List Int)) (w : World) (r : Ending) (w' : World) : Prop :=
  ∃ a n c vs, r = .returned (.slice a n c) ∧ n = ws.length ∧ Row w.heap.size w' 1 a n c vs ∧ WYs (fun x => w.heap.size ≤ x ∧ blockOf a ≠ some x) w' ws vs ∧ Below w.heap.size w w'
end Go.Proofs.YtbldidiibkcelaaGreatDoor

