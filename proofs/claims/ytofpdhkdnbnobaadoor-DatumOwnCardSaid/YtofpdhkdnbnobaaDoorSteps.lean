/-
  Steps of a region that draws: a call by its contract, a new variable, a struct stored. Not a statement of the seat.
-/
import Derived.Test.YtofpdhkdnbnobaaDoorHeldL
import Derived.Test.YtofpdhkdnbnobaaDoorVal0
import Derived.Test.YtofpdhkdnbnobaaDoorTwo
import Derived.Test.YtofpdhkdnbnobaaDoorValB
namespace Go.Proofs.YtofpdhkdnbnobaaDoor
open Go.RowKit

section
variable {ops : Array Oper} {o : Oper} {a : Act} {K : Act → World → Prop} {Q : Exit → Act → World → Prop} {E : Prop} {w : World}
theorem step_alloc25 (hgd : o.guard = none) (hop : o.op = .alloc 25)
    (h : ∀ p wx, p = w.heap.size → Blk wx p (V5 0 0 0 ⟨#[]⟩ none 0 0) → Below w.heap.size w wx → wx.heap.size = w.heap.size + 1 → K (a.put o.dst (.pointer (some ⟨p, 0, none⟩))) wx) :
    if Region.wanted o (yielded ops a.tmps) = true then Oper.wp Tryd.prog o a w K Q else E := by
  have hw : Region.wanted o (yielded ops a.tmps) = true := by simp [Region.wanted, hgd]
  rw [if_pos hw]
  unfold Oper.wp
  simp [execOp, hop, go_sem, Instr.alloc]
  exact h _ _ rfl (Blk.new w _ _) ((Below.refl _ _).alloc (Nat.le_refl _) _) (by simp)
theorem step_store25 (hgd : o.guard = none) (js jx : Tmp) (hop : o.op = .store 25 (.tmp js) (.tmp jx)) {p : Nat} {k i b : Int} {t : ByteArray} {l : Option Addr} {n c : Nat}
    (hs : a.tmps[js]?.getD undef = .pointer (some ⟨p, 0, none⟩)) (hx : a.tmps[jx]?.getD undef = .agg #[.int .i64 k, .int .i64 i, .int .u64 b, .string t, .slice l n c]) (hB : Blk w p (V5 0 0 0 ⟨#[]⟩ none 0 0)) (hd : o.dst = none)
    (h : K a (st5 w p (.int .i64 k) (.int .i64 i) (.int .u64 b) (.string t) (.slice l n c))) :
    if Region.wanted o (yielded ops a.tmps) = true then Oper.wp Tryd.prog o a w K Q else E := by
  have hw : Region.wanted o (yielded ops a.tmps) = true := by simp [Region.wanted, hgd]
  rw [if_pos hw]
  have z0 := hB.cell 0 rfl
  have z1 := hB.cell 1 rfl
  have z2 := hB.cell 2 rfl
  have z3 := hB.cell 3 rfl
  have z4 := hB.cell 4 rfl
  have f0 := hB.free 0 (by simp [V5])
  have f1 := hB.free 1 (by simp [V5])
  have f2 := hB.free 2 (by simp [V5])
  have f3 := hB.free 3 (by simp [V5])
  have f4 := hB.free 4 (by simp [V5])
  unfold Oper.wp
  simp [execOp, hop, hs, hx, go_sem, z0, z1, z2, z3, z4, f0, f1, f2, f3, f4, Act.put, hd]
  exact h
end
/-- any of these may come up -/
theorem someL {P : Program} {md : Region.Mode} {l : List Oper} {Q : Exit → Act → World → Prop} {S : World → Prop} {fuel : Nat} {listed : Array Bool} {a : Act} {w : World} {is : List Nat} (hr : Region.ready md l.toArray listed = is) (hne : is ≠ [])
    (h : ∀ i ∈ is, ∃ o, nthO l i = some o ∧ ∀ K' : Act → World → Prop, Shut (∀ a w, S w → (S w → wpAnyL P md l.toArray Q S fuel (listed.setIfInBounds i true) a w) → K' a w) → if Region.wanted o (yielded l.toArray a.tmps) = true then Oper.wp P o a w K' Q else K' (a.put o.dst undef) w) :
    wpAnyL P md l.toArray Q S (fuel + 1) listed a w := by
  refine ⟨fun h0 => absurd (hr.symm.trans h0) hne, fun j hj => ?_⟩
  rw [hr] at hj
  obtain ⟨o, ho, h⟩ := h j hj
  exact wpOp_step ((nthO_at l j).trans ho) (fun K' hK => h K' (fun a w hS hW => hK a w ⟨.inr hS, hW hS⟩))

/-- a row behind a copy, apart from these blocks -/
def Got (ps : List Nat) (w3 W : World) (f : Fo) (n : Nat) (l : Option Addr) (c : Nat) : Prop := ∃ S, (∀ x, S x → w3.heap.size ≤ x ∧ x < W.heap.size ∧ x ∉ ps) ∧ FoAt S W f l n c
section
variable {ps : List Nat} {w3 W W' : World} {f : Fo} {n c : Nat} {l : Option Addr}
theorem Got.of (h : FoAt (fun x => W.heap.size ≤ x) W' f l n c) (h3 : w3.heap.size ≤ W.heap.size) (hp : ∀ p ∈ ps, p < W.heap.size) : Got ps w3 W' f n l c :=
  ⟨fun x => W.heap.size ≤ x ∧ x < W'.heap.size, fun x hx => ⟨Nat.le_trans h3 hx.1, hx.2, fun hm => by have := hp x hm; omega⟩, h.same (fun _ _ _ => rfl) (fun x hx hlt => ⟨hx, hlt⟩)⟩
theorem Got.below (h : Got ps w3 W f n l c) (hb : Below W.heap.size W W') : Got ps w3 W' f n l c := by
  obtain ⟨S, h1, h2⟩ := h
  exact ⟨S, fun x hx => ⟨(h1 x hx).1, Nat.lt_of_lt_of_le (h1 x hx).2.1 hb.size, (h1 x hx).2.2⟩, h2.same (fun x _ hlt => hb.block x hlt) (fun _ hx _ => hx)⟩
theorem Got.more {p : Nat} (h : Got ps w3 W f n l c) (hp : p = W.heap.size) : Got (p :: ps) w3 W f n l c := by
  obtain ⟨S, h1, h2⟩ := h
  exact ⟨S, fun x hx => ⟨(h1 x hx).1, (h1 x hx).2.1, fun hm => by
    rcases List.mem_cons.1 hm with e | e
    · have := (h1 x hx).2.1; omega
    · exact (h1 x hx).2.2 e⟩, h2⟩
/-- the stores into the blocks turn nothing of it -/
theorem Got.st {p : Nat} (h : Got ps w3 W f n l c) (hp : p ∈ ps) (v0 v1 v2 v3 v4 : Value) : Got ps w3 (st5 W p v0 v1 v2 v3 v4) f n l c := by
  obtain ⟨S, h1, h2⟩ := h
  have hk := st5_kept (w := W) (b := p) v0 v1 v2 v3 v4
  exact ⟨S, fun x hx => ⟨(h1 x hx).1, Nat.lt_of_lt_of_le (h1 x hx).2.1 hk.size, (h1 x hx).2.2⟩, h2.keepS hk (fun x hx e => (h1 x hx).2.2 (by rw [show x = p from e]; exact hp))⟩
theorem Got.ar {d : Dt} (h : Got ps w3 W d.l n l c) : Ar (fun x => x < W.heap.size) W d l n c := by
  obtain ⟨S, h1, h2⟩ := h
  exact ⟨h2.same (fun _ _ _ => rfl) (fun x hx _ => (h1 x hx).2.1), fun _ hx => hx⟩
end
end Go.Proofs.YtofpdhkdnbnobaaDoor
