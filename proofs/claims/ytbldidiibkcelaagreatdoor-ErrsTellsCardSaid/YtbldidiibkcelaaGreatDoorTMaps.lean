/-
  Maps whose keys are int64, as lists of keys and values, for the proofs of this seat. Not a statement of the seat.
-/
import Derived.WalkKit
import Derived.Below
import Derived.Carry
import Derived.Maps.OwnSet
import Derived.Test.YtbldidiibkcelaaGreatDoorTEMem
import Derived.Test.YtbldidiibkcelaaGreatDoorTFits
import Derived.Test.YtbldidiibkcelaaGreatDoorTCount
import Derived.Lib.ConvBytes
import Derived.Lib.AtoiErrMem
namespace Go.Proofs.YtbldidiibkcelaaGreatDoor
open Go.RowKit

/-- Block r is a map that holds l (in some order that nobody sees; no key twice). -/
def MapAt (w : World) (r : Nat) (l : List (Int × Value)) : Prop :=
  (∃ es clock, w.heap[r]? = some (.map es clock) ∧ es.toList.map (fun e => (e.key, e.val)) = l.map (fun p => (Value.int .i64 p.1, p.2))) ∧ (l.map (·.1)).Nodup
section
variable {P : Program} {w : World}

end

theorem MapAt.new (w : World) : MapAt (w.alloc (.map #[] 0)) w.heap.size [] := ⟨⟨#[], 0, heap_alloc_new w _, rfl⟩, by simp⟩
theorem MapAt.kept {w w' : World} {r : Nat} {l : List (Int × Value)} {row : Option Nat} (h : MapAt w r l) (hg : w.grownBy w' row) (hne : some r ≠ row) : MapAt w' r l := by
  obtain ⟨⟨es, clock, hh, he⟩, hn⟩ := h
  exact ⟨⟨es, clock, (hg.block r (Array.getElem?_eq_some_iff.1 hh).1 hne).trans hh, he⟩, hn⟩
theorem MapAt.lt {w : World} {r : Nat} {l : List (Int × Value)} (h : MapAt w r l) : r < w.heap.size := by
  obtain ⟨⟨es, clock, hh, he⟩, hn⟩ := h
  exact (Array.getElem?_eq_some_iff.1 hh).1
theorem MapAt.below {w w' : World} {r : Nat} {l : List (Int × Value)} (h : MapAt w r l) (hb : Below w.heap.size w w') : MapAt w' r l := by
  have hlt := h.lt
  obtain ⟨⟨es, clock, hh, he⟩, hn⟩ := h
  exact ⟨⟨es, clock, (hb.block r hlt).trans hh, he⟩, hn⟩
theorem MapAt.alloc {w : World} {r : Nat} {l : List (Int × Value)} (h : MapAt w r l) (o : Obj) : MapAt (w.alloc o) r l := h.below ((Below.refl _ _).alloc (Nat.le_refl _) _)
end Go.Proofs.YtbldidiibkcelaaGreatDoor

/-
  The boxes of some values, and which interface value is a value's. Not a statement of the seat.
-/
namespace Go.Proofs.YtbldidiibkcelaaGreatDoor
open Go.RowKit

/-- boxes by their numbers: the number, the block -/
abbrev BM := List (Int × Nat)
def bxL (M : BM) : List (Int × Value) := M.map fun p => (p.1, .pointer (some ⟨p.2, 0, none⟩))
/-- what a boxes map turns: itself, its boxes -/
def NB (M : BM) (mb : Nat) : Nat → Prop := fun x => x = mb ∨ ∃ p ∈ M, p.2 = x
/-- cells, none of them frozen -/
def Cl (w : World) (b : Nat) : Prop := ∃ cs T, w.heap[b]? = some (.cells cs T (0, 0))
theorem Cl.same {w w' : World} {b : Nat} (h : Cl w b) (e : w'.heap[b]? = w.heap[b]?) : Cl w' b := by
  obtain ⟨cs, T, h⟩ := h
  exact ⟨cs, T, e.trans h⟩
theorem Cl.new (w : World) (cs : Array Value) (T : TypeId) : Cl (w.alloc (.cells cs T)) w.heap.size := ⟨cs, T, heap_alloc_new w _⟩
theorem Cl.set {w : World} {b : Nat} (h : Cl w b) (p : Addr) (u : Value) : Cl (w.setCell p u) b := by
  obtain ⟨cs, T, h⟩ := h
  by_cases e : p.block = b
  · subst e
    simp [Cl, World.setCell, Array.getElem?_modify, h]
  · exact ⟨cs, T, by simp [World.setCell, Array.getElem?_modify, e, h]⟩
theorem Cl.lt {w : World} {b : Nat} (h : Cl w b) : b < w.heap.size := by
  obtain ⟨cs, T, h⟩ := h
  exact (Array.getElem?_eq_some_iff.1 h).1
structure BxM (M : BM) (mb : Nat) (w : World) : Prop where
  map : MapAt w mb (bxL M)
  box : ∀ p ∈ M, ∃ v, Blk w p.2 [.int .i64 p.1, v]
  cl : ∀ p ∈ M, Cl w p.2
section
variable {M M' : BM} {mb : Nat} {w w' : World}
theorem BxM.new (w : World) : BxM [] w.heap.size (w.alloc (.map #[] 0)) := ⟨MapAt.new w, (fun p hp => by cases hp), fun p hp => by cases hp⟩
theorem BxM.lt (h : BxM M mb w) {x : Nat} (hx : NB M mb x) : x < w.heap.size := by
  rcases hx with rfl | ⟨p, hp, rfl⟩
  · exact h.map.lt
  · obtain ⟨v, hv⟩ := h.box p hp
    exact hv.lt
theorem MapAt.same {r : Nat} {l : List (Int × Value)} (h : MapAt w r l) (hb : w'.heap[r]? = w.heap[r]?) : MapAt w' r l := by
  obtain ⟨⟨es, clock, hh, he⟩, hn⟩ := h
  exact ⟨⟨es, clock, hb.trans hh, he⟩, hn⟩
theorem BxM.same (h : BxM M mb w) (hb : ∀ x, NB M mb x → w'.heap[x]? = w.heap[x]?) : BxM M mb w' :=
  ⟨h.map.same (hb mb (.inl rfl)), (fun p hp => by obtain ⟨v, hv⟩ := h.box p hp; exact ⟨v, hv.same (hb p.2 (.inr ⟨p, hp, rfl⟩))⟩), fun p hp => (h.cl p hp).same (hb p.2 (.inr ⟨p, hp, rfl⟩))⟩
theorem BxM.below (h : BxM M mb w) (g : Below w.heap.size w w') : BxM M mb w' := h.same (fun x hx => g.block x (h.lt hx))
theorem BxM.keep {N : Nat → Prop} (h : BxM M mb w) (g : Kept N w w') (hn : ∀ x, NB M mb x → ¬ N x) : BxM M mb w' := h.same (fun x hx => g.block x (h.lt hx) (hn x hx))
theorem BxM.alloc (h : BxM M mb w) (o : Obj) : BxM M mb (w.alloc o) := h.below ((Below.refl _ _).alloc (Nat.le_refl _) _)
/-- one number, one box -/
theorem BxM.one (h : BxM M mb w) {p q : Int × Nat} (hp : p ∈ M) (hq : q ∈ M) : p.1 = q.1 ↔ p.2 = q.2 := by
  constructor
  · intro e
    have hn := h.map.2
    have hm : (bxL M).map (·.1) = M.map (·.1) := by simp [bxL]
    rw [hm] at hn
    have key : ∀ (l : BM), (l.map (·.1)).Nodup → ∀ p q, p ∈ l → q ∈ l → p.1 = q.1 → p = q := by
      intro l
      induction l with
      | nil => intro _ p q hp; cases hp
      | cons a r ih =>
        intro hn p q hp hq e
        simp only [List.map_cons, List.nodup_cons] at hn
        rcases List.mem_cons.1 hp with hp1 | hp1
        · rcases List.mem_cons.1 hq with hq1 | hq1
          · rw [hp1, hq1]
          · refine absurd ?_ hn.1
            rw [← hp1, e]
            exact List.mem_map_of_mem hq1
        · rcases List.mem_cons.1 hq with hq1 | hq1
          · refine absurd ?_ hn.1
            rw [← hq1, ← e]
            exact List.mem_map_of_mem hp1
          · exact ih hn.2 p q hp1 hq1 e
    rw [key M hn p q hp hq e]
  · intro e
    obtain ⟨v, hv⟩ := h.box p hp
    obtain ⟨u, hu⟩ := h.box q hq
    have h1 := hv.cell 0 rfl
    have h2 := hu.cell 0 rfl
    rw [e, h2] at h1
    injection h1 with h1
    injection h1 with _ h1
    exact h1.symm
end

/-- the interface value of one value; P: those of its parts -/
def vOne (M : BM) (k i b : Int) (t : Bs) (P : List Value → Prop) (x : Value) : Prop :=
  if k = 1 then x = .iface 202 (.int .i64 i)
  else if k = 2 then x = .iface 203 (.int .i64 i)
  else if k = 3 then x = .iface 204 (.float .f64 b.toNat)
  else if k = 4 then x = .iface 205 (.string ⟨t.toArray⟩)
  else if k = 5 then x = .iface 206 (.string ⟨t.toArray⟩)
  else if k = 6 then x = .iface 207 (.bool (i == 1))
  else if k = 7 then ∃ a n c, x = .iface 208 (.slice a n c)
  else if k = 8 then ∃ a n c, x = .iface 210 (.slice a n c)
  else if k = 9 then ∃ x1 x2, P [x1, x2] ∧ x = .iface 200 (.agg #[x1, x2])
  else if k = 10 then x = .iface 213 (.agg #[.int .i64 i, .string ⟨t.toArray⟩])
  else if k = 11 then ∃ bb, (i, bb) ∈ M ∧ x = .iface 214 (.pointer (some ⟨bb, 0, none⟩))
  else if k = 12 then x = .iface 214 (.pointer none)
  else if k = 13 then x = .iface 218 (.agg #[])
  else x = .nilIface
/-- .. of a row -/
def ValF (M : BM) : Fo → List Value → Prop
  | .nil, xs => xs = []
  | .cons k i b t kids rest, xs => ∃ x xs', xs = x :: xs' ∧ vOne M k i b t (ValF M kids) x ∧ ValF M rest xs'
theorem vOne.mono {M M' : BM} {k i b : Int} {t : Bs} {P P' : List Value → Prop} {x : Value} (h : vOne M k i b t P x) (hs : ∀ p ∈ M, p ∈ M') (hP : ∀ xs, P xs → P' xs) : vOne M' k i b t P' x := by
  by_cases h9 : k = 9
  · subst h9
    simp only [vOne] at h ⊢
    obtain ⟨x1, x2, h1, rfl⟩ := h
    exact ⟨x1, x2, hP _ h1, rfl⟩
  by_cases h11 : k = 11
  · subst h11
    simp only [vOne] at h ⊢
    obtain ⟨bb, h1, rfl⟩ := h
    exact ⟨bb, hs _ h1, rfl⟩
  unfold vOne at h ⊢
  simp only [if_neg h9, if_neg h11] at h ⊢
  exact h
theorem ValF.mono {M M' : BM} (hs : ∀ p ∈ M, p ∈ M') : ∀ (f : Fo) {xs : List Value}, ValF M f xs → ValF M' f xs
  | .nil, _, h => h
  | .cons k i b t kids rest, xs, h => by
    obtain ⟨x, xs', rfl, h1, h2⟩ := h
    exact ⟨x, xs', rfl, h1.mono hs (fun _ hx => ValF.mono hs kids hx), ValF.mono hs rest h2⟩
theorem ValF.len {M : BM} : ∀ (f : Fo) {xs : List Value}, ValF M f xs → xs.length = f.len
  | .nil, _, h => by cases h; rfl
  | .cons k i b t kids rest, xs, h => by
    obtain ⟨x, xs', rfl, _, h2⟩ := h
    simp [Fo.len, ValF.len rest h2]
theorem ValF.app {M : BM} : ∀ (f : Fo) {g : Fo} {xs ys : List Value}, ValF M f xs → ValF M g ys → ValF M (f.app g) (xs ++ ys)
  | .nil, _, _, _, h, h' => by cases h; exact h'
  | .cons k i b t kids rest, g, xs, ys, h, h' => by
    obtain ⟨x, xs', rfl, h1, h2⟩ := h
    exact ⟨x, xs' ++ ys, rfl, h1, ValF.app rest h2 h'⟩
theorem ValF.two {M : BM} {f : Fo} {x1 x2 : Value} (h : ValF M f [x1, x2]) : ∃ k1 i1 b1 t1 ks1 k2 i2 b2 t2 ks2, f = .cons k1 i1 b1 t1 ks1 (.cons k2 i2 b2 t2 ks2 .nil) ∧ vOne M k1 i1 b1 t1 (ValF M ks1) x1 ∧ vOne M k2 i2 b2 t2 (ValF M ks2) x2 := by
  cases f with
  | nil => cases h
  | cons k1 i1 b1 t1 ks1 r =>
    obtain ⟨x, xs', e, h1, h2⟩ := h
    cases e
    cases r with
    | nil => cases h2
    | cons k2 i2 b2 t2 ks2 r2 =>
      obtain ⟨y, ys', e, h3, h4⟩ := h2
      cases e
      cases r2 with
      | nil => exact ⟨_, _, _, _, _, _, _, _, _, _, rfl, h1, h3⟩
      | cons _ _ _ _ _ _ => obtain ⟨_, _, e, _⟩ := h4; cases e
theorem vOne.one {M : BM} {k i b : Int} {t : Bs} {P : List Value → Prop} {x : Value} (h : vOne M k i b t P x) : x.oneCell' = true := by
  unfold vOne at h
  by_cases h1 : k = 1
  · rw [if_pos h1] at h
    subst h; rfl
  rw [if_neg h1] at h
  by_cases h2 : k = 2
  · rw [if_pos h2] at h
    subst h; rfl
  rw [if_neg h2] at h
  by_cases h3 : k = 3
  · rw [if_pos h3] at h
    subst h; rfl
  rw [if_neg h3] at h
  by_cases h4 : k = 4
  · rw [if_pos h4] at h
    subst h; rfl
  rw [if_neg h4] at h
  by_cases h5 : k = 5
  · rw [if_pos h5] at h
    subst h; rfl
  rw [if_neg h5] at h
  by_cases h6 : k = 6
  · rw [if_pos h6] at h
    subst h; rfl
  rw [if_neg h6] at h
  by_cases h7 : k = 7
  · rw [if_pos h7] at h
    obtain ⟨_, _, _, rfl⟩ := h; rfl
  rw [if_neg h7] at h
  by_cases h8 : k = 8
  · rw [if_pos h8] at h
    obtain ⟨_, _, _, rfl⟩ := h; rfl
  rw [if_neg h8] at h
  by_cases h9 : k = 9
  · rw [if_pos h9] at h
    obtain ⟨_, _, _, rfl⟩ := h; rfl
  rw [if_neg h9] at h
  by_cases h10 : k = 10
  · rw [if_pos h10] at h
    subst h; rfl
  rw [if_neg h10] at h
  by_cases h11 : k = 11
  · rw [if_pos h11] at h
    obtain ⟨_, _, rfl⟩ := h; rfl
  rw [if_neg h11] at h
  by_cases h12 : k = 12
  · rw [if_pos h12] at h
    subst h; rfl
  rw [if_neg h12] at h
  by_cases h13 : k = 13
  · rw [if_pos h13] at h
    subst h; rfl
  rw [if_neg h13] at h
  subst h; rfl
theorem size_app : ∀ (f g : Fo), sizeF (f.app g) = sizeF f + sizeF g
  | .nil, g => by simp [Fo.app, sizeF]
  | .cons _ _ _ _ _ r, g => by simp only [Fo.app, sizeF, size_app r g]; omega
theorem len_size : ∀ f : Fo, f.len ≤ sizeF f
  | .nil => Nat.le_refl _
  | .cons _ _ _ _ _ r => by have := len_size r; simp only [Fo.len, sizeF]; omega
/-- what value comes to: a value, the boxes map behind it, what has turned -/
structure VB (M : BM) (mb : Nat) (w : World) (M' : BM) (w' : World) : Prop where
  bx : BxM M' mb w'
  kept : Kept (NB M mb) w w'
  sub : ∀ p ∈ M, p ∈ M'
  fresh : ∀ p ∈ M', p ∈ M ∨ w.heap.size ≤ p.2
theorem VB.refl {M : BM} {mb : Nat} {w w' : World} (h : BxM M mb w) (g : Below w.heap.size w w') : VB M mb w M w' := ⟨h.below g, .of' g, fun _ hp => hp, fun _ hp => .inl hp⟩
theorem NB.sub {M M' : BM} {mb : Nat} {w : World} (hf : ∀ p ∈ M', p ∈ M ∨ w.heap.size ≤ p.2) {x : Nat} (hx : x < w.heap.size) (h : NB M' mb x) : NB M mb x := by
  rcases h with rfl | ⟨p, hp, rfl⟩
  · exact .inl rfl
  · rcases hf p hp with h | h
    · exact .inr ⟨p, h, rfl⟩
    · omega
theorem VB.trans {M M1 M2 : BM} {mb : Nat} {w w1 w2 : World} (h : VB M mb w M1 w1) (g : VB M1 mb w1 M2 w2) : VB M mb w M2 w2 :=
  ⟨g.bx, h.kept.tail g.kept (fun _ hx hn => NB.sub h.fresh hx hn), fun p hp => g.sub p (h.sub p hp), fun p hp => by
    rcases g.fresh p hp with h1 | h1
    · exact h.fresh p h1
    · exact .inr (Nat.le_trans h.kept.size h1)⟩
theorem VB.calm {M M1 : BM} {mb : Nat} {w w1 w2 : World} (h : VB M mb w M1 w1) (g : Below w1.heap.size w1 w2) : VB M mb w M1 w2 := h.trans (.refl h.bx g)
/-- ahead: a call that turns nothing that lay -/
theorem VB.ahead {M M1 : BM} {mb : Nat} {w w1 w2 : World} (hb : BxM M mb w) (g : Below w.heap.size w w1) (h : VB M mb w1 M1 w2) : VB M mb w M1 w2 := VB.trans (.refl hb g) h
end Go.Proofs.YtbldidiibkcelaaGreatDoor

/-
  boxes.value and boxes.values (walks). Not a statement of the seat.
-/
namespace Go.Proofs.YtbldidiibkcelaaGreatDoor
open Go.RowKit

theorem vOne.iface {M : BM} {k i b : Int} {t : Bs} {P : List Value → Prop} {x : Value} (h : vOne M k i b t P x) : x = .nilIface ∨ ∃ u v, x = .iface u v := by
  unfold vOne at h
  by_cases h1 : k = 1
  · rw [if_pos h1] at h
    subst h; exact .inr ⟨_, _, rfl⟩
  rw [if_neg h1] at h
  by_cases h2 : k = 2
  · rw [if_pos h2] at h
    subst h; exact .inr ⟨_, _, rfl⟩
  rw [if_neg h2] at h
  by_cases h3 : k = 3
  · rw [if_pos h3] at h
    subst h; exact .inr ⟨_, _, rfl⟩
  rw [if_neg h3] at h
  by_cases h4 : k = 4
  · rw [if_pos h4] at h
    subst h; exact .inr ⟨_, _, rfl⟩
  rw [if_neg h4] at h
  by_cases h5 : k = 5
  · rw [if_pos h5] at h
    subst h; exact .inr ⟨_, _, rfl⟩
  rw [if_neg h5] at h
  by_cases h6 : k = 6
  · rw [if_pos h6] at h
    subst h; exact .inr ⟨_, _, rfl⟩
  rw [if_neg h6] at h
  by_cases h7 : k = 7
  · rw [if_pos h7] at h
    obtain ⟨_, _, _, rfl⟩ := h; exact .inr ⟨_, _, rfl⟩
  rw [if_neg h7] at h
  by_cases h8 : k = 8
  · rw [if_pos h8] at h
    obtain ⟨_, _, _, rfl⟩ := h; exact .inr ⟨_, _, rfl⟩
  rw [if_neg h8] at h
  by_cases h9 : k = 9
  · rw [if_pos h9] at h
    obtain ⟨_, _, _, rfl⟩ := h; exact .inr ⟨_, _, rfl⟩
  rw [if_neg h9] at h
  by_cases h10 : k = 10
  · rw [if_pos h10] at h
    subst h; exact .inr ⟨_, _, rfl⟩
  rw [if_neg h10] at h
  by_cases h11 : k = 11
  · rw [if_pos h11] at h
    obtain ⟨_, _, rfl⟩ := h; exact .inr ⟨_, _, rfl⟩
  rw [if_neg h11] at h
  by_cases h12 : k = 12
  · rw [if_pos h12] at h
    subst h; exact .inr ⟨_, _, rfl⟩
  rw [if_neg h12] at h
  by_cases h13 : k = 13
  · rw [if_pos h13] at h
    subst h; exact .inr ⟨_, _, rfl⟩
  rw [if_neg h13] at h
  subst h; exact .inl rfl
theorem VB.grow {M M1 : BM} {mb : Nat} {w w1 w2 : World} (h : VB M mb w M1 w1) {row : Option Nat} (g : w1.grownBy w2 row) (hr : ∀ b, row = some b → w.heap.size ≤ b ∧ ¬ NB M1 mb b) : VB M mb w M1 w2 :=
  ⟨h.bx.same (fun x hx => g.block x (h.bx.lt hx) (fun e => (hr x e.symm).2 hx)), h.kept.grown g (fun b e hb => absurd (hr b e).1 (by omega)), h.sub, h.fresh⟩
theorem FoAt.keepS {S : Nat → Prop} {N : Nat → Prop} {w w' : World} {f : Fo} {l : Option Addr} {n c : Nat} (h : FoAt S w f l n c) (g : Kept N w w') (hn : ∀ x, S x → ¬ N x) : FoAt S w' f l n c :=
  h.same (fun x hx hlt => g.block x hlt (hn x hx)) (fun _ hx _ => hx)
theorem FoAt.own {S : Nat → Prop} {w : World} {f : Fo} {l : Option Addr} {n c x : Nat} (h : FoAt S w f l n c) (hn : 0 < n) (hx : blockOf l = some x) : S x := by
  obtain ⟨cs, ⟨_, h2⟩, _⟩ := h
  exact h2 x hn hx
end Go.Proofs.YtbldidiibkcelaaGreatDoor

