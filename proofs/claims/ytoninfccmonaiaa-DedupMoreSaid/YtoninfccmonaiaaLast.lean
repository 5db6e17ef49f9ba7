/-
  The plain law behind DedupRows and DedupMore: what is known is the last so many that were told as new. Not a statement of the seat.
-/
import Derived.Test.YtoninfccmonaiaaAwake
namespace Go.Proofs.Ytoninfccmonaiaa
open Go.RowKit

/-- the last n members -/
def lastN (l : List Int) (n : Nat) : List Int := l.drop (l.length - n)
theorem lastN_length (l : List Int) (n : Nat) : (lastN l n).length = min n l.length := by simp [lastN]; omega
theorem lastN_nil (n : Nat) : lastN [] n = [] := by simp [lastN]
theorem seenL_last (l : List Int) (n : Nat) (id : Int) (hn : 1 ≤ n) : seenL (lastN l n) n id = if memB (lastN l n) id = true then lastN l n else lastN (l ++ [id]) n := by
  unfold seenL
  by_cases hm : memB (lastN l n) id = true
  · rw [if_pos hm, if_pos hm]
  · rw [if_neg hm, if_neg hm, lastN_length]
    by_cases hf : n ≤ l.length
    · rw [if_pos (by omega)]
      unfold lastN
      rw [List.drop_drop, List.length_append, List.length_singleton, List.drop_append_of_le_length (by omega)]
      congr 2
      omega
    · rw [if_neg (by omega)]
      unfold lastN
      rw [List.length_append, List.length_singleton, show l.length - n = 0 by omega, show l.length + 1 - n = 0 by omega]
      simp
theorem lastN_mono {l : List Int} {n m : Nat} (h : n ≤ m) {id : Int} (hm : memB (lastN l n) id = true) : memB (lastN l m) id = true := by
  rw [memB_iff] at hm ⊢
  unfold lastN at *
  have : l.length - n = (l.length - m) + ((l.length - n) - (l.length - m)) := by omega
  rw [this, ← List.drop_drop] at hm
  exact List.mem_of_mem_drop hm
theorem u64_range (x : Int) : 0 ≤ IntKind.u64.wrap x ∧ IntKind.u64.wrap x < 18446744073709551616 := by
  unfold IntKind.wrap
  simp [IntKind.bits, IntKind.signed]
  omega
theorem small_mod (x : Int) (m : Int) (h1 : 1 ≤ m) (h2 : m ≤ 1000) : ∃ z : Nat, (z : Int) < m ∧ wrap64 ((IntKind.u64.wrap x).tmod m) = z := by
  obtain ⟨h3, h4⟩ := u64_range x
  rw [Int.tmod_eq_emod_of_nonneg h3]
  have h5 := Int.emod_nonneg (IntKind.u64.wrap x) (show m ≠ 0 by omega)
  have h6 := Int.emod_lt_of_pos (IntKind.u64.wrap x) (show 0 < m by omega)
  refine ⟨((IntKind.u64.wrap x) % m).toNat, by omega, ?_⟩
  rw [IntWalk.wrap64_in _ ⟨by omega, by omega⟩]
  omega

/-- 1 + uint64(sz)%m, as the walk has it -/
theorem one_mod (x : Int) (m : Int) (h1 : 1 ≤ m) (h2 : m ≤ 1000) : ∃ z : Nat, 1 ≤ z ∧ (z : Int) ≤ m ∧ wrap64 (1 + wrap64 ((IntKind.u64.wrap x).tmod m)) = z := by
  obtain ⟨y, h, e⟩ := small_mod x m h1 h2
  rw [e]
  refine ⟨y + 1, by omega, by omega, ?_⟩
  rw [IntWalk.wrap64_in _ ⟨by omega, by omega⟩]
  omega

/-- is one of members s .. q - 1 the number? -/
def seenTo (l : List Int) (s q : Nat) (id : Int) : Bool := memB ((l.take q).drop s) id
theorem seenTo_start (l : List Int) (s : Nat) (id : Int) : seenTo l s s id = false := by
  unfold seenTo
  rw [List.drop_of_length_le (by simp; omega)]
  rfl
theorem seenTo_step {l : List Int} {s q : Nat} {id : Int} (h : s ≤ q) (hq : q < l.length) : seenTo l s (q + 1) id = (seenTo l s q id || l[q]?.getD 0 == id) := by
  unfold seenTo memB
  rw [List.take_succ_eq_append_getElem hq, List.drop_append_of_le_length (by simp; omega)]
  have he : l[q]?.getD 0 = l[q] := by simp [hq]
  rw [he, Bool.eq_iff_iff]
  simp [eq_comm (a := id)]
theorem seenTo_end (l : List Int) (n : Nat) (id : Int) : seenTo l (l.length - n) l.length id = memB (lastN l n) id := by
  unfold seenTo lastN
  rw [List.take_length]

/-- what holds between two rounds of DedupRows -/
structure RowsAt (w : World) (z : Nat) (fr : List Int) (af : Option Addr) (cf : Nat) (ast : Option Addr) (cst : Nat) (wr : World) : Prop where
  box : wr.cell? ⟨w.heap.size, 0, none⟩ = some (.slice ast (lastN fr z).length cst)
  boxF : wr.frozen? ⟨w.heap.size, 0, none⟩ = false
  row : Row (w.heap.size + 1) wr 1 af fr.length cf (I64 fr)
  st : Row (w.heap.size + 1) wr 1 ast (lastN fr z).length cst (I64 (lastN fr z))
  apart : ∀ j, blockOf af = some j → blockOf ast ≠ some j
  below : Below w.heap.size w wr
  size : w.heap.size + 1 ≤ wr.heap.size

theorem setCell_size (w : World) (a : Addr) (u : Value) : (w.setCell a u).heap.size = w.heap.size := by simp [World.setCell]

/-- a round in which the number was known -/
theorem RowsAt.known {w : World} {z : Nat} {fr : List Int} {af : Option Addr} {cf : Nat} {ast : Option Addr} {cst : Nat} {wr w1 : World} {a1 : Option Addr} {m c1 : Nat} (h : RowsAt w z fr af cf ast cst wr) (hb : Below wr.heap.size wr w1)
    (hr : Row wr.heap.size w1 1 a1 m c1 (I64 (lastN fr z))) (hm : (lastN fr z).length = m) : RowsAt w z fr af cf a1 c1 (w1.setCell ⟨w.heap.size, 0, none⟩ (.slice a1 m c1)) := by
  subst hm
  have hs := h.size
  have hs1 := hb.size
  have hx := cellAt hb h.box
  refine ⟨World.cell?_setCell_same' _ _ _ (by rw [hx]; rfl), by rw [World.frozen?_setCell]; exact freeAt hb h.box h.boxF, (h.row.below hb).put (by simp) _, ?_, ?_, ?_, by rw [setCell_size]; omega⟩
  · exact (hr.mono (by omega)).put (by simp) _
  · intro j hj e
    have := (h.row.lt _ hj).2
    have := (hr.lt _ e).1
    omega
  · exact (h.below.trans (hb.mono (by omega))).setCell (by simp) _

/-- a round in which it was new -/
theorem RowsAt.fresh {w : World} {z : Nat} {fr : List Int} {id : Int} {af : Option Addr} {cf : Nat} {ast : Option Addr} {cst : Nat} {wr w1 w4 : World} {a1 : Option Addr} {m c1 : Nat} {a4 : Option Addr} {c4 : Nat} {o : Obj} (h : RowsAt w z fr af cf ast cst wr) (hb : Below wr.heap.size wr w1)
    (hr : Row wr.heap.size w1 1 a1 m c1 (I64 (lastN (fr ++ [id]) z))) (hm : (lastN (fr ++ [id]) z).length = m) (hr4 : Row (w.heap.size + 1) w4 1 a4 (fr.length + 1) c4 (I64 fr ++ [.int .i64 id]))
    (hg : ((w1.setCell ⟨w.heap.size, 0, none⟩ (.slice a1 m c1)).alloc o).grownBy w4 (blockOf af))
    (hk : blockOf a4 = blockOf af ∨ blockOf a4 = some ((w1.setCell ⟨w.heap.size, 0, none⟩ (.slice a1 m c1)).alloc o).heap.size) : RowsAt w z (fr ++ [id]) a4 c4 a1 c1 w4 := by
  subst hm
  have hs := h.size
  have hs1 := hb.size
  have hx := cellAt hb h.box
  have hbx := World.cell?_setCell_same' w1 ⟨w.heap.size, 0, none⟩ (.slice a1 (lastN (fr ++ [id]) z).length c1) (by rw [hx]; rfl)
  have hbf : (w1.setCell ⟨w.heap.size, 0, none⟩ (.slice a1 (lastN (fr ++ [id]) z).length c1)).frozen? ⟨w.heap.size, 0, none⟩ = false := by rw [World.frozen?_setCell]; exact freeAt hb h.box h.boxF
  have hne : some w.heap.size ≠ blockOf af := fun e => by have := h.row.lt _ e.symm; omega
  have haf : ∀ j, blockOf af = some j → w.heap.size + 1 ≤ j ∧ j < wr.heap.size := h.row.lt
  have hbl : ∀ j, blockOf a1 = some j → wr.heap.size ≤ j ∧ j < w1.heap.size := hr.lt
  refine ⟨cellGr hg (cellNew _ hbx) hne, freeGr hg (cellNew _ hbx) (freeNew _ hbx hbf) hne, ?_, ?_, ?_, ?_, ?_⟩
  · rw [I64_append, List.length_append, List.length_singleton]; exact hr4
  · refine Row.kept (((hr.mono (by omega)).put (by simp) _).alloc o) hg ?_
    cases ha : blockOf af with
    | none => exact .inr rfl
    | some j =>
      refine .inl (fun e => ?_)
      have := haf j ha
      have := hbl j e
      omega
  · intro j hj e
    have := hbl j e
    rcases hk with hk | hk
    · rw [hk] at hj; have := haf j hj; omega
    · rw [hk] at hj; simp at hj; omega
  · exact (((h.below.trans (hb.mono (by omega))).setCell (by simp) _).alloc (by rw [setCell_size]; omega) _).grown hg (by rw [World.size_alloc, setCell_size]; omega) (fun j hj => by have := haf j hj; omega)
  · have := hg.size; rw [World.size_alloc, setCell_size] at this; omega

theorem RowsAt.start (w : World) (z : Nat) : RowsAt w z [] none 0 none 0 (w.alloc (Obj.cells #[Value.slice none 0 0] 24)) :=
  ⟨by simp [lastN], by simp, Row.nil _ _ _, by rw [lastN_nil]; exact Row.nil _ _ _, fun j h => (by cases h), (Below.refl _ _).alloc (Nat.le_refl _) _, by simp⟩
end Go.Proofs.Ytoninfccmonaiaa
