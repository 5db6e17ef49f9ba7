/-
  The walk of Start (the document's). Not a statement of the seat.
-/
import Derived.Test.YtigfgdefgnahpaaDoorWorkWrites
namespace Go.Proofs.YtigfgdefgnahpaaDoor
open Go.RowKit

/-- behind an append of one value onto a row of the owner k, and the store of the row's slice into a cell of wb -/
theorem rowPush {k wb j n c c' : Nat} {a a' : Option Addr} {xs cs : List Value} {v : Value} {w1 w4 : World} {r1 : Own} (hk : k ≠ 0) (hwb : r1 wb = some 0) (HB : Blk w1 wb cs) (HR : RowK w1 r1 k 1 a n c xs)
    (hrow : Row 0 w4 1 a' (n + 1) c' (xs ++ [v])) (hgr : w1.grownBy w4 (blockOf a)) (hbk : blockOf a' = blockOf a ∨ blockOf a' = some w1.heap.size) (hbnd : Bnd w1 r1) :
    ∃ r', Step (fun i => i = 0 ∨ i = k) w1 r1 (w4.setCell ⟨wb, j, none⟩ (.slice a' (n + 1) c')) r' ∧ RowK (w4.setCell ⟨wb, j, none⟩ (.slice a' (n + 1) c')) r' k 1 a' (n + 1) c' (xs ++ [v]) ∧ Blk (w4.setCell ⟨wb, j, none⟩ (.slice a' (n + 1) c')) wb (cs.set j (.slice a' (n + 1) c')) ∧ r' wb = some 0 := by
  have hne : ∀ x, blockOf a = some x → x ≠ wb := fun x hx e => by subst e; have := HR.2 x hx; rw [hwb] at this; cases this; exact hk rfl
  have g3 : Step (fun i => i = 0 ∨ i = k) w1 r1 (w4.setCell ⟨wb, j, none⟩ (.slice a' (n + 1) c')) r1 := ((Step.refl _ hbnd).grown hgr (fun x hx _ => ⟨k, HR.2 x hx, .inr rfl⟩)).put _ (fun _ => ⟨0, hwb, .inl rfl⟩)
  have hlt := HB.lt
  have hgb4 : ∀ x, blockOf a' = some x → x ≠ wb := fun x hx e => by
    rcases hbk with h | h
    · exact hne x (by rw [← h]; exact hx) e
    · rw [h] at hx; cases hx; omega
  have kB : Blk (w4.setCell ⟨wb, j, none⟩ (.slice a' (n + 1) c')) wb (cs.set j (.slice a' (n + 1) c')) := (HB.grown hgr (fun e => hne _ e rfl)).set (j := j) _
  have kR : Row 0 (w4.setCell ⟨wb, j, none⟩ (.slice a' (n + 1) c')) 1 a' (n + 1) c' (xs ++ [v]) := hrow.kept (grownBy_setAt _ _ _) (.inl (fun e => hgb4 wb e rfl))
  rcases hbk with h | h
  · refine ⟨r1, g3, ⟨kR, fun x hx => ?_⟩, kB, hwb⟩
    rw [h] at hx
    exact HR.2 x hx
  · have hlt4 := (kR.lt _ h).2
    have g4 := g3.give (b := w1.heap.size) (k := k) (Nat.le_refl _) hlt4 (.inr rfl)
    refine ⟨_, g4, ⟨kR, fun x hx => ?_⟩, kB, ?_⟩
    · rw [h] at hx; cases hx; exact Own.give_same _ _ _
    · rw [g4.old wb hlt]; exact hwb

/-- what stays of the arguments -/
structure Sa where
  dat : ByteArray
  sa : Option Addr
  sn : Nat
  sc : Nat
  early : Bool
  broken : Bool
  wr : Bool
  pa : Option Addr
  pn : Nat
  pc : Nat
  ta : Option Addr
  tn : Nat
  tc : Nat
  room : Int
  over : Bool
  rd : Bool
  bk : Int
  qa : Option Addr
  qn : Nat
  qc : Nat
def Sa.src (A : Sa) : List Value := [.string A.dat, .slice A.sa A.sn A.sc, .bool A.early, .bool A.broken, .bool A.wr, .slice A.pa A.pn A.pc]
def Sa.dst (A : Sa) : List Value := [.slice A.ta A.tn A.tc, .int .i64 A.room, .bool A.over, .bool A.rd, .int .i64 A.bk, .slice A.qa A.qn A.qc]
structure Rw where
  a1 : Option Addr
  c1 : Nat
  a2 : Option Addr
  c2 : Nat
  a3 : Option Addr
  c3 : Nat
  a4 : Option Addr
  c4 : Nat
def Sa.cells (A : Sa) (R : Rw) (n1 n2 n3 j tb : Nat) : List Value := A.src ++ A.dst ++ [.int .i64 0, .int .i64 0, .slice R.a1 n1 R.c1, .slice R.a2 n2 R.c2, .slice R.a3 n3 R.c3, .slice R.a4 j R.c4, .pointer (some ⟨tb, 0, none⟩)]
def StartAt (w : World) (r : Own) (A : Sa) (ps : List Pp) (wb tb sb db : Nat) (R : Rw) (bl : Nat → Nat) (n1 n2 n3 j : Nat) (t : Tank) : Prop :=
  r wb = some 0 ∧ Blk w wb (A.cells R n1 n2 n3 j tb) ∧ (r sb = none ∧ Blk w sb A.src) ∧ (r db = none ∧ Blk w db A.dst) ∧ TankAt w r 5 tb t A.rd A.bk ∧
    RowK w r 1 1 R.a1 n1 R.c1 (I3 ((ps.take n1).map Pp.n)) ∧ RowK w r 3 1 R.a2 n2 R.c2 (ptrsB bl n2) ∧ RowK w r 2 1 R.a3 n3 R.c3 (I3 (List.replicate n3 0)) ∧ RowK w r 4 1 R.a4 j R.c4 (I3 (List.replicate j 0)) ∧
    ∀ q p, q < n2 → ps[q]? = some p → TankAt w r (10 + q) (bl q) p.fresh.tank p.rd p.bk
section
variable {K : Nat → Prop} {w w' : World} {r r' : Own} {A : Sa} {ps : List Pp} {wb tb sb db : Nat} {R : Rw} {bl : Nat → Nat} {n1 n2 n3 j : Nat} {t : Tank}
theorem StartAt.calm (h : StartAt w r A ps wb tb sb db R bl n1 n2 n3 j t) (g : Step (fun _ => False) w r w' r') : StartAt w' r' A ps wb tb sb db R bl n1 n2 n3 j t := by
  obtain ⟨h1, h2, h3, h4, h5, h6, h7, h8, h9, h10⟩ := h
  exact ⟨g.oldK h2.lt h1, h2.step g h1 id, (h3.2.free0 g h3.1).symm, (h4.2.free0 g h4.1).symm, h5.step g id, h6.step g id, h7.step g id, h8.step g id, h9.step g id, fun q p hq hp => (h10 q p hq hp).step g id⟩
theorem ptrsB_succ (bl : Nat → Nat) (n : Nat) : ptrsB bl (n + 1) = ptrsB bl n ++ [ptr (bl n)] := by
  unfold ptrsB; rw [List.range_succ, List.map_append]; rfl
theorem StartAt.push1 {a' : Option Addr} {c' : Nat} {p : Pp} (hp : ps[n1]? = some p) (h : StartAt w r A ps wb tb sb db R bl n1 n2 n3 j t) (hbnd : Bnd w r)
    (hrow : Row 0 w' 1 a' (n1 + 1) c' (I3 ((ps.take n1).map Pp.n) ++ [.int .i64 p.n])) (hgr : w.grownBy w' (blockOf R.a1)) (hbk : blockOf a' = blockOf R.a1 ∨ blockOf a' = some w.heap.size) :
    ∃ r', Step (· ≤ 4) w r (w'.setCell ⟨wb, 14, none⟩ (.slice a' (n1 + 1) c')) r' ∧ StartAt (w'.setCell ⟨wb, 14, none⟩ (.slice a' (n1 + 1) c')) r' A ps wb tb sb db { R with a1 := a', c1 := c' } bl (n1 + 1) n2 n3 j t := by
  obtain ⟨h1, h2, h3, h4, h5, h6, h7, h8, h9, h10⟩ := h
  obtain ⟨r', g, kr, kb, kw⟩ := rowPush (k := 1) (j := 14) (by omega) h1 h2 h6 hrow hgr hbk hbnd
  refine ⟨r', g.mono (fun i hi => by omega), kw, kb, (h3.2.free0 g h3.1).symm, (h4.2.free0 g h4.1).symm, h5.step g (by omega), ?_, h7.step g (by omega), h8.step g (by omega), h9.step g (by omega), fun q p hq hp => (h10 q p hq hp).step g (by omega)⟩
  rw [List.take_add_one, hp]
  simpa [I3] using kr
theorem StartAt.push3 {a' : Option Addr} {c' : Nat} (h : StartAt w r A ps wb tb sb db R bl n1 n2 n3 j t) (hbnd : Bnd w r)
    (hrow : Row 0 w' 1 a' (n3 + 1) c' (I3 (List.replicate n3 0) ++ [.int .i64 0])) (hgr : w.grownBy w' (blockOf R.a3)) (hbk : blockOf a' = blockOf R.a3 ∨ blockOf a' = some w.heap.size) :
    ∃ r', Step (· ≤ 4) w r (w'.setCell ⟨wb, 16, none⟩ (.slice a' (n3 + 1) c')) r' ∧ StartAt (w'.setCell ⟨wb, 16, none⟩ (.slice a' (n3 + 1) c')) r' A ps wb tb sb db { R with a3 := a', c3 := c' } bl n1 n2 (n3 + 1) j t := by
  obtain ⟨h1, h2, h3, h4, h5, h6, h7, h8, h9, h10⟩ := h
  obtain ⟨r', g, kr, kb, kw⟩ := rowPush (k := 2) (j := 16) (by omega) h1 h2 h8 hrow hgr hbk hbnd
  refine ⟨r', g.mono (fun i hi => by omega), kw, kb, (h3.2.free0 g h3.1).symm, (h4.2.free0 g h4.1).symm, h5.step g (by omega), h6.step g (by omega), h7.step g (by omega), ?_, h9.step g (by omega), fun q p hq hp => (h10 q p hq hp).step g (by omega)⟩
  rw [List.replicate_succ']
  simpa [I3] using kr
theorem StartAt.push4 {a' : Option Addr} {c' : Nat} (h : StartAt w r A ps wb tb sb db R bl n1 n2 n3 j t) (hbnd : Bnd w r)
    (hrow : Row 0 w' 1 a' (j + 1) c' (I3 (List.replicate j 0) ++ [.int .i64 0])) (hgr : w.grownBy w' (blockOf R.a4)) (hbk : blockOf a' = blockOf R.a4 ∨ blockOf a' = some w.heap.size) :
    ∃ r', Step (· ≤ 4) w r (w'.setCell ⟨wb, 17, none⟩ (.slice a' (j + 1) c')) r' ∧ StartAt (w'.setCell ⟨wb, 17, none⟩ (.slice a' (j + 1) c')) r' A ps wb tb sb db { R with a4 := a', c4 := c' } bl n1 n2 n3 (j + 1) t := by
  obtain ⟨h1, h2, h3, h4, h5, h6, h7, h8, h9, h10⟩ := h
  obtain ⟨r', g, kr, kb, kw⟩ := rowPush (k := 4) (j := 17) (by omega) h1 h2 h9 hrow hgr hbk hbnd
  refine ⟨r', g.mono (fun i hi => by omega), kw, kb, (h3.2.free0 g h3.1).symm, (h4.2.free0 g h4.1).symm, h5.step g (by omega), h6.step g (by omega), h7.step g (by omega), h8.step g (by omega), ?_, fun q p hq hp => (h10 q p hq hp).step g (by omega)⟩
  rw [List.replicate_succ']
  simpa [I3] using kr
/-- .. a side's tank: it lies in a new block, which is given its owner first -/
theorem StartAt.push2 {a' : Option Addr} {c' nb : Nat} {p : Pp} {w0 : World} {r0 : Own} (hp : ps[n2]? = some p) (h : StartAt w0 r0 A ps wb tb sb db R bl n1 n2 n3 j t) (hz : RdK w0 r0 none 1 p.sa p.sn p.sc (I3 p.zs)) (hnb : w0.heap.size ≤ nb) (hg0 : Step (fun _ => False) w0 r0 w r0)
    (hB : Blk w nb [.slice p.sa p.sn p.sc, .int .i64 p.room, .bool p.over, .bool p.rd, .int .i64 p.bk, .slice none 0 0, .int .i64 0])
    (hrow : Row 0 w' 1 a' (n2 + 1) c' (ptrsB bl n2 ++ [ptr nb])) (hgr : w.grownBy w' (blockOf R.a2)) (hbk : blockOf a' = blockOf R.a2 ∨ blockOf a' = some w.heap.size) :
    ∃ r', Step (fun i => i ≤ 4 ∨ i = 10 + n2) w0 r0 (w'.setCell ⟨wb, 15, none⟩ (.slice a' (n2 + 1) c')) r' ∧ StartAt (w'.setCell ⟨wb, 15, none⟩ (.slice a' (n2 + 1) c')) r' A ps wb tb sb db { R with a2 := a', c2 := c' } (fun q => if q = n2 then nb else bl q) n1 (n2 + 1) n3 j t := by
  have hs := h.calm hg0
  have g1 : Step (fun i => i = 10 + n2) w0 r0 w (r0.give nb (10 + n2)) := (hg0.mono (fun _ h => h.elim)).give hnb hB.lt rfl
  obtain ⟨h1, h2, h3, h4, h5, h6, h7, h8, h9, h10⟩ := h
  have q1 : (r0.give nb (10 + n2)) wb = some 0 := by rw [g1.old wb h2.lt]; exact h1
  have q7 := h7.step g1 (by omega)
  have q2 := h2.step g1 h1 (by omega)
  obtain ⟨r', g, kr, kb, kw⟩ := rowPush (k := 3) (j := 15) (by omega) q1 q2 q7 hrow hgr hbk g1.bound
  have hT : TankAt w (r0.give nb (10 + n2)) (10 + n2) nb p.fresh.tank p.rd p.bk :=
    ⟨p.sa, p.sn, p.sc, none, 0, 0, Own.give_same _ _ _, hB, hz.step g1 (fun _ h => by cases h), ⟨Row.nil _ _ _, fun x hx => by cases hx⟩, fun x hx => by cases hx⟩
  refine ⟨r', (g1.mono (fun i hi => .inr hi)).trans (g.mono (fun i hi => by omega)), kw, kb, ?_, ?_, (h5.step g1 (by omega)).step g (by omega), (h6.step g1 (by omega)).step g (by omega), ?_, (h8.step g1 (by omega)).step g (by omega), (h9.step g1 (by omega)).step g (by omega), fun q p' hq hp' => ?_⟩
  · have k1 := h3.2.free0 g1 h3.1
    exact (k1.1.free0 g k1.2).symm
  · have k1 := h4.2.free0 g1 h4.1
    exact (k1.1.free0 g k1.2).symm
  · have he : ptrsB (fun q => if q = n2 then nb else bl q) (n2 + 1) = ptrsB bl n2 ++ [ptr nb] := by
      rw [ptrsB_succ]
      simp only [if_true]
      congr 1
      unfold ptrsB
      apply List.map_congr_left
      intro q hq
      have : q ≠ n2 := by have := List.mem_range.1 hq; omega
      simp [this]
    rw [he]; exact kr
  · by_cases hqn : q = n2
    · subst hqn
      rw [hp] at hp'; cases hp'
      simp only [if_true]
      exact hT.step g (by omega)
    · simp only [if_neg hqn]
      exact ((h10 q p' (by omega) hp').step g1 (by omega)).step g (by omega)
end
end Go.Proofs.YtigfgdefgnahpaaDoor
