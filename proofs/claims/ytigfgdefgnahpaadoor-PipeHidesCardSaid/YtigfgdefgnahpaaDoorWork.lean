/-
  The document's state: how a Work lies in memory; the walk of sunk. Not a statement of the seat.
-/
import Derived.Test.YtigfgdefgnahpaaDoorWay
import Derived.Test.YtigfgdefgnahpaaDoorTankW
namespace Go.Proofs.YtigfgdefgnahpaaDoor
open Go.RowKit

/-- what stays of a Work: its arguments, and where its rows lie -/
structure Wk where
  dat : ByteArray
  sa : Option Addr
  sn : Nat
  sc : Nat
  wr : Bool
  pa : Option Addr
  pn : Nat
  pc : Nat
  ps : List Pp
  ta : Option Addr
  tn : Nat
  tc : Nat
  rd : Bool
  bk : Int
  qa : Option Addr
  qn : Nat
  qc : Nat
  qs : List Pp
  a1 : Option Addr
  c1 : Nat
  a2 : Option Addr
  c2 : Nat
  a3 : Option Addr
  c3 : Nat
  a4 : Option Addr
  c4 : Nat
  tb : Nat
  bl : Nat → Nat
def Wk.cells (x : Wk) (s : Sc) (t : Tank) : List Value :=
  [.string x.dat, .slice x.sa x.sn x.sc, .bool s.early, .bool s.broken, .bool x.wr, .slice x.pa x.pn x.pc, .slice x.ta x.tn x.tc, .int .i64 t.room, .bool t.over, .bool x.rd, .int .i64 x.bk, .slice x.qa x.qn x.qc,
   .int .i64 (s.pos : Int), .int .i64 (s.k : Int), .slice x.a1 x.pn x.c1, .slice x.a2 x.pn x.c2, .slice x.a3 x.pn x.c3, .slice x.a4 x.qn x.c4, .pointer (some ⟨x.tb, 0, none⟩)]
/-- the side tanks, by their places -/
def SideAt (w : World) (r : Own) (bl : Nat → Nat) (ts : List Tank) : Prop := ∀ i t, ts[i]? = some t → ∃ rd bk, TankAt w r (10 + i) (bl i) t rd bk
def ptrsB (bl : Nat → Nat) (n : Nat) : List Value := (List.range n).map (fun i => ptr (bl i))
def WorkAt (w : World) (r : Own) (wb : Nat) (x : Wk) (l : List Wr) (s : Sc) (k : List Int) (t : Tank) : Prop :=
  r wb = some 0 ∧ Blk w wb (x.cells s t) ∧ s.data = x.dat.data.toList ∧ RdK w r none 1 x.sa x.sn x.sc (I3 s.sizes) ∧ Pipes w r x.pa x.pn x.pc x.ps ∧ Pipes w r x.qa x.qn x.qc x.qs ∧
    RowK w r 1 1 x.a1 x.pn x.c1 (I3 (l.reverse.map Wr.lim)) ∧ RowK w r 3 1 x.a2 x.pn x.c2 (ptrsB x.bl x.pn) ∧ RowK w r 2 1 x.a3 x.pn x.c3 (I3 (l.reverse.map Wr.cnt)) ∧ RowK w r 4 1 x.a4 x.qn x.c4 (I3 k) ∧
    TankAt w r 5 x.tb t x.rd x.bk ∧ SideAt w r x.bl (l.reverse.map Wr.tank) ∧ l.reverse.map Wr.op = x.ps.map Pp.op

/-- what the sink's counts count -/
def sunkM (qs : List Pp) (n : Nat) (k : List Int) : List Int := List.zipWith (fun q c => if q.op = 2 then c + n else c) qs k
/-- .. with the first i of them counted already -/
def sunkI (qs : List Pp) (n i : Nat) (k : List Int) : List Int := sunkM (qs.take i) n (k.take i) ++ k.drop i
theorem sunkI_len {qs : List Pp} {n i : Nat} {k : List Int} (h : qs.length = k.length) : (sunkI qs n i k).length = k.length := by
  simp [sunkI, sunkM]; omega
theorem sunkI_at {qs : List Pp} {n i : Nat} {k : List Int} (h : qs.length = k.length) (hi : i < k.length) : (sunkI qs n i k)[i]? = k[i]? := by
  have hl : (sunkM (qs.take i) n (k.take i)).length = i := by simp [sunkM]; omega
  unfold sunkI
  rw [List.getElem?_append_right (by omega), hl, Nat.sub_self, List.getElem?_drop]; simp
theorem sunkI_succ {qs : List Pp} {n i : Nat} {k : List Int} (h : qs.length = k.length) {q : Pp} {c : Int} (hq : qs[i]? = some q) (hc : k[i]? = some c) : sunkI qs n (i + 1) k = (sunkI qs n i k).set i (if q.op = 2 then c + n else c) := by
  have hi := (List.getElem?_eq_some_iff.1 hc).1
  have hv := (List.getElem?_eq_some_iff.1 hc).2
  have hl : (sunkM (qs.take i) n (k.take i)).length = i := by simp [sunkM]; omega
  have e1 : sunkM (qs.take (i + 1)) n (k.take (i + 1)) = sunkM (qs.take i) n (k.take i) ++ [if q.op = 2 then c + n else c] := by
    unfold sunkM
    rw [List.take_add_one, List.take_add_one, hq, hc, Option.toList_some, Option.toList_some, List.zipWith_append (by simp; omega)]
    rfl
  unfold sunkI
  rw [e1, List.drop_eq_getElem_cons hi, List.set_append_right _ _ (by omega), hl, Nat.sub_self, List.set_cons_zero, List.append_assoc]
  rfl
theorem sunkI_done {qs : List Pp} {n : Nat} {k : List Int} (h : qs.length = k.length) : sunkI qs n k.length k = sunkM qs n k := by
  unfold sunkI
  rw [List.take_of_length_le (by omega), List.take_of_length_le (Nat.le_refl _), List.drop_of_length_le (Nat.le_refl _), List.append_nil]
end Go.Proofs.YtigfgdefgnahpaaDoor
