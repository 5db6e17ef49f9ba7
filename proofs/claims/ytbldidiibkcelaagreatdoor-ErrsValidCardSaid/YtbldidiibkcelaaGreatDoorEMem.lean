/-
  Errors in memory: a row of errors, each with its value, its codes, its parts. Not a statement of the seat.
-/
import Derived.Test.YtbldidiibkcelaaGreatDoorSameP
namespace Go.Proofs.YtbldidiibkcelaaGreatDoor
open Go.RowKit

/-- a row of errors: each node an error with what it wraps, and the row's rest -/
inductive Eo where
  | nil
  | cons (k i c : Int) (t : Bs) (b : Dt) (cs : List Int) (kids rest : Eo)
namespace Eo
def len : Eo → Nat
  | nil => 0
  | cons _ _ _ _ _ _ _ r => r.len + 1
def app : Eo → Eo → Eo
  | nil, g => g
  | cons k i c t b cs ks r, g => cons k i c t b cs ks (r.app g)
theorem len_app : ∀ (f g : Eo), (f.app g).len = f.len + g.len
  | nil, g => by simp [app, len]
  | cons _ _ _ _ _ _ _ r, g => by simp only [app, len, len_app r g]; omega
theorem app_nil : ∀ (f : Eo), f.app nil = f
  | nil => rfl
  | cons _ _ _ _ _ _ _ r => by simp only [app, app_nil r]
theorem app_assoc : ∀ (f g h : Eo), (f.app g).app h = f.app (g.app h)
  | nil, _, _ => rfl
  | cons _ _ _ _ _ _ _ r, g, h => by simp only [app, app_assoc r g h]
/-- of each node's children -/
def All (P : Eo → Prop) : Eo → Prop
  | .nil => True
  | .cons _ _ _ _ _ _ kids rest => P kids ∧ rest.All P
theorem All.split {P : Eo → Prop} : ∀ (f : Eo) {g : Eo}, (f.app g).All P → g.All P
  | .nil, _, h => h
  | .cons _ _ _ _ _ _ _ rest, _, h => All.split rest h.2
end Eo
/-- an error by itself -/
structure Et where
  k : Int
  i : Int
  c : Int
  t : Bs
  b : Dt
  cs : List Int
  l : Eo
def Et.zero : Et := ⟨0, 0, 0, [], Dt.zero, [], .nil⟩
def Et.eo (e : Et) : Eo := .cons e.k e.i e.c e.t e.b e.cs e.l .nil

def I8 (cs : List Int) : List Value := cs.map (fun x => Value.int .i64 x)
theorem I8_length (cs : List Int) : (I8 cs).length = cs.length := by simp [I8]
/-- an error's eleven cells -/
def V11 (k i c : Int) (t : Bs) (b : Dt) (bl : Option Addr) (bn bc : Nat) (cl : Option Addr) (cn cc : Nat) (l : Option Addr) (n cap : Nat) : List Value :=
  [.int .i64 k, .int .i64 i, .int .i64 c, .string ⟨t.toArray⟩, .int .i64 b.k, .int .i64 b.i, .int .u64 b.b, .string ⟨b.t.toArray⟩, .slice bl bn bc, .slice cl cn cc, .slice l n cap]
/-- .. as one value -/
def vE (k i c : Int) (t : Bs) (b : Dt) (bl : Option Addr) (bn bc : Nat) (cl : Option Addr) (cn cc : Nat) (l : Option Addr) (n cap : Nat) : Value :=
  .agg #[.int .i64 k, .int .i64 i, .int .i64 c, .string ⟨t.toArray⟩, .int .i64 b.k, .int .i64 b.i, .int .u64 b.b, .string ⟨b.t.toArray⟩, .slice bl bn bc, .slice cl cn cc, .slice l n cap]
/-- a row of errors in memory, by its cells -/
def EAt (S : Nat → Prop) (w : World) : Eo → List Value → Prop
  | .nil, vs => vs = []
  | .cons k i c t b cs kids rest, vs => ∃ bl bn bc cl cn cc l n cap ks vs', vs = V11 k i c t b bl bn bc cl cn cc l n cap ++ vs' ∧
      FoAt S w b.l bl bn bc ∧ (Rd w 1 cl cn cc (I8 cs) ∧ (∀ x, 0 < cn → blockOf cl = some x → S x)) ∧ (Rd w 11 l n cap ks ∧ (∀ x, 0 < n → blockOf l = some x → S x)) ∧ EAt S w kids ks ∧ EAt S w rest vs'
/-- .. by its slice -/
def EoAt (S : Nat → Prop) (w : World) (f : Eo) (l : Option Addr) (n cap : Nat) : Prop := ∃ vs, (Rd w 11 l n cap vs ∧ (∀ x, 0 < n → blockOf l = some x → S x)) ∧ EAt S w f vs
/-- what an error's three rows are -/
def ErAt (S : Nat → Prop) (w : World) (e : Et) (bl : Option Addr) (bn bc : Nat) (cl : Option Addr) (cn cc : Nat) (l : Option Addr) (n cap : Nat) : Prop :=
  FoAt S w e.b.l bl bn bc ∧ (Rd w 1 cl cn cc (I8 e.cs) ∧ (∀ x, 0 < cn → blockOf cl = some x → S x)) ∧ EoAt S w e.l l n cap

section
variable {S S' : Nat → Prop} {w w' : World}
theorem EAt.len : ∀ (f : Eo) {vs : List Value}, EAt S w f vs → vs.length = f.len * 11
  | .nil, vs, h => by cases h; rfl
  | .cons k i c t b cs kids rest, vs, h => by
    obtain ⟨bl, bn, bc, cl, cn, cc, l, n, cap, ks, vs', rfl, _, _, _, _, h⟩ := h
    have := EAt.len rest h
    simp only [V11, List.length_append, List.length_cons, List.length_nil, Eo.len]
    omega
theorem Rd.inS {sz : Nat} {a : Option Addr} {n cap : Nat} {xs : List Value} (h1 : Rd w sz a n cap xs) (h2 : ∀ x, 0 < n → blockOf a = some x → S x) (hs : ∀ b, S b → b < w.heap.size → S' b) : ∀ x, 0 < n → blockOf a = some x → S' x := by
  intro x hn hx
  refine hs x (h2 x hn hx) ?_
  rcases h1.2.2.2 with ⟨h5, _⟩ | ⟨b, off, rfl, hlt, _⟩
  · omega
  · cases hx; exact hlt
theorem EAt.same : ∀ (f : Eo) {vs : List Value}, EAt S w f vs → (∀ b, S b → b < w.heap.size → w'.heap[b]? = w.heap[b]?) → (∀ b, S b → b < w.heap.size → S' b) → EAt S' w' f vs
  | .nil, _, h, _, _ => h
  | .cons k i c t b cs kids rest, vs, h, hb, hs => by
    obtain ⟨bl, bn, bc, cl, cn, cc, l, n, cap, ks, vs', rfl, h1, ⟨h2, h3⟩, ⟨h4, h5⟩, h6, h7⟩ := h
    exact ⟨bl, bn, bc, cl, cn, cc, l, n, cap, ks, vs', rfl, h1.same hb hs, ⟨h2.same0 (fun x hn hx hl => hb x (h3 x hn hx) hl), h2.inS h3 hs⟩, ⟨h4.same0 (fun x hn hx hl => hb x (h5 x hn hx) hl), h4.inS h5 hs⟩, EAt.same kids h6 hb hs, EAt.same rest h7 hb hs⟩
theorem EAt.app : ∀ (f : Eo) {g : Eo} {vs vs' : List Value}, EAt S w f vs → EAt S w g vs' → EAt S w (f.app g) (vs ++ vs')
  | .nil, _, _, _, h, h' => by cases h; exact h'
  | .cons k i c t b cs kids rest, g, vs, vs', h, h' => by
    obtain ⟨bl, bn, bc, cl, cn, cc, l, n, cap, ks, vs1, rfl, h1, h2, h4, h6, h7⟩ := h
    exact ⟨bl, bn, bc, cl, cn, cc, l, n, cap, ks, vs1 ++ vs', by rw [List.append_assoc], h1, h2, h4, h6, EAt.app rest h7 h'⟩
theorem EAt.split : ∀ (f : Eo) {g : Eo} {vs : List Value}, EAt S w (f.app g) vs → ∃ vs1 vs2, vs = vs1 ++ vs2 ∧ EAt S w f vs1 ∧ EAt S w g vs2
  | .nil, _, vs, h => ⟨[], vs, rfl, rfl, h⟩
  | .cons k i c t b cs kids rest, _, vs, h => by
    obtain ⟨bl, bn, bc, cl, cn, cc, l, n, cap, ks, vs', rfl, h1, h2, h4, h6, h7⟩ := h
    obtain ⟨v1, v2, rfl, h8, h9⟩ := EAt.split rest h7
    exact ⟨_, v2, by rw [List.append_assoc], ⟨bl, bn, bc, cl, cn, cc, l, n, cap, ks, v1, rfl, h1, h2, h4, h6, h8⟩, h9⟩
theorem EoAt.len {f : Eo} {l : Option Addr} {n cap : Nat} (h : EoAt S w f l n cap) : f.len = n := by
  obtain ⟨vs, ⟨h1, _⟩, h2⟩ := h
  have := EAt.len f h2
  have := h1.1
  omega
theorem EoAt.same {f : Eo} {l : Option Addr} {n cap : Nat} (h : EoAt S w f l n cap) (hb : ∀ b, S b → b < w.heap.size → w'.heap[b]? = w.heap[b]?) (hs : ∀ b, S b → b < w.heap.size → S' b) : EoAt S' w' f l n cap := by
  obtain ⟨vs, ⟨h1, h2⟩, h3⟩ := h
  exact ⟨vs, ⟨h1.same0 (fun x hn hx hl => hb x (h2 x hn hx) hl), h1.inS h2 hs⟩, EAt.same f h3 hb hs⟩
theorem ErAt.same {e : Et} {bl : Option Addr} {bn bc : Nat} {cl : Option Addr} {cn cc : Nat} {l : Option Addr} {n cap : Nat} (h : ErAt S w e bl bn bc cl cn cc l n cap) (hb : ∀ b, S b → b < w.heap.size → w'.heap[b]? = w.heap[b]?) (hs : ∀ b, S b → b < w.heap.size → S' b) : ErAt S' w' e bl bn bc cl cn cc l n cap :=
  ⟨h.1.same hb hs, ⟨h.2.1.1.same0 (fun x hn hx hl => hb x (h.2.1.2 x hn hx) hl), h.2.1.1.inS h.2.1.2 hs⟩, h.2.2.same hb hs⟩
theorem EoAt.nil (S : Nat → Prop) (w : World) : EoAt S w .nil none 0 0 := ⟨[], ⟨Rd.nil w 11, fun _ h => absurd h (by omega)⟩, rfl⟩
end
/-- an element of a row, by its place: its eleven cells, and its rows -/
theorem EoAt.elem {S : Nat → Prop} {w : World} {dn ks rest : Eo} {k i c : Int} {t : Bs} {b : Dt} {cs : List Int} {l : Option Addr} {n cap : Nat} (h : EoAt S w (dn.app (.cons k i c t b cs ks rest)) l n cap) :
    ∃ bb off bl bn bc cl cn cc l2 n2 cap2, l = some ⟨bb, off, none⟩ ∧ ErAt S w ⟨k, i, c, t, b, cs, ks⟩ bl bn bc cl cn cc l2 n2 cap2 ∧
      (∀ j, j < 11 → w.cell? ⟨bb, off + dn.len * 11 + j, none⟩ = (V11 k i c t b bl bn bc cl cn cc l2 n2 cap2)[j]?) ∧ n ≤ 9223372036854775807 ∧ dn.len < n := by
  have hlen := h.len
  rw [Eo.len_app] at hlen
  have hlr : (Eo.cons k i c t b cs ks rest).len = rest.len + 1 := rfl
  have hjn : dn.len < n := by omega
  obtain ⟨vs, ⟨hRd, hSx⟩, hAt⟩ := h
  have hHead := hRd.at (k := dn.len) hjn
  have hnb : n ≤ 9223372036854775807 := by have h1 := hRd.le; have h2 := hRd.max; unfold maxLen at h2; omega
  obtain ⟨v1, v2, rfl, hA1, hA2⟩ := EAt.split dn hAt
  have hl1 := EAt.len dn hA1
  obtain ⟨bl, bn, bc, cl, cn, cc, l2, n2, cap2, ks2, vs', rfl, h1, h2, h4, h6, _⟩ := hA2
  obtain ⟨bb2, off, rfl, hlt, hc⟩ := hHead
  refine ⟨bb2, off, bl, bn, bc, cl, cn, cc, l2, n2, cap2, rfl, ⟨h1, h2, ks2, h4, h6⟩, fun j hj => ?_, hnb, hjn⟩
  have hV : (V11 k i c t b bl bn bc cl cn cc l2 n2 cap2).length = 11 := rfl
  rw [hc j hj, List.getElem?_append_right (by omega), hl1, Nat.add_sub_cancel_left, List.getElem?_append_left (by omega)]
end Go.Proofs.YtbldidiibkcelaaGreatDoor
