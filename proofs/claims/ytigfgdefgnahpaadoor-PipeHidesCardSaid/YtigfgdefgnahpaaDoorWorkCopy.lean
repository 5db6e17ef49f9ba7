/-
  The walk of Copy (the document's). Not a statement of the seat.
-/
import Derived.Test.YtigfgdefgnahpaaDoorWorkOf
import Derived.Deep.CutRange
import Derived.Deep.CutBlock
namespace Go.Proofs.YtigfgdefgnahpaaDoor
open Go.RowKit

/-- behind an append of one value onto a row of the owner k, and the store of the row's slice into a cell of cb -/
theorem rowPushQ {k q wb j n c c' : Nat} {a a' : Option Addr} {xs cs : List Value} {v : Value} {w1 w4 : World} {r1 : Own} (hk : k ≠ q) (hwb : r1 wb = some q) (HB : Blk w1 wb cs) (HR : RowK w1 r1 k 1 a n c xs)
    (hrow : Row 0 w4 1 a' (n + 1) c' (xs ++ [v])) (hgr : w1.grownBy w4 (blockOf a)) (hbk : blockOf a' = blockOf a ∨ blockOf a' = some w1.heap.size) (hbnd : Bnd w1 r1) :
    ∃ r', Step (fun i => i = q ∨ i = k) w1 r1 (w4.setCell ⟨wb, j, none⟩ (.slice a' (n + 1) c')) r' ∧ RowK (w4.setCell ⟨wb, j, none⟩ (.slice a' (n + 1) c')) r' k 1 a' (n + 1) c' (xs ++ [v]) ∧ Blk (w4.setCell ⟨wb, j, none⟩ (.slice a' (n + 1) c')) wb (cs.set j (.slice a' (n + 1) c')) ∧ r' wb = some q := by
  have hne : ∀ x, blockOf a = some x → x ≠ wb := fun x hx e => by subst e; have := HR.2 x hx; rw [hwb] at this; cases this; exact hk rfl
  have g3 : Step (fun i => i = q ∨ i = k) w1 r1 (w4.setCell ⟨wb, j, none⟩ (.slice a' (n + 1) c')) r1 := ((Step.refl _ hbnd).grown hgr (fun x hx _ => ⟨k, HR.2 x hx, .inr rfl⟩)).put _ (fun _ => ⟨q, hwb, .inl rfl⟩)
  have hlt := HB.lt
  have hgb4 : ∀ x, blockOf a' = some x → x ≠ wb := fun x hx e => by
    rcases hbk with h | h
    · exact hne x (by rw [← h]; exact hx) e
    · rw [h] at hx; cases hx; omega
  have kB : Blk (w4.setCell ⟨wb, j, none⟩ (.slice a' (n + 1) c')) wb (cs.set j (.slice a' (n + 1) c')) := (HB.grown hgr (fun e => hne _ e rfl)).set (j := j) _
  have kR : Row 0 (w4.setCell ⟨wb, j, none⟩ (.slice a' (n + 1) c')) 1 a' (n + 1) c' (xs ++ [v]) := hrow.kept (grownBy_setAt _ _ _) (.inl (fun e => hgb4 wb e rfl))
  rcases hbk with h | h
  · refine ⟨r1, g3, ⟨kR, fun x hx => ?_⟩, kB, hwb⟩
    rw [h] at hx
    exact HR.2 x hx
  · have hlt4 := (kR.lt _ h).2
    have g4 := g3.give (b := w1.heap.size) (k := k) (Nat.le_refl _) hlt4 (.inr rfl)
    refine ⟨_, g4, ⟨kR, fun x hx => ?_⟩, kB, ?_⟩
    · rw [h] at hx; cases hx; exact Own.give_same _ _ _
    · rw [g4.old wb hlt]; exact hwb

theorem snoc_of {pre : List Wr} {l mm : List Wr} {n : Nat} (h : l = pre ++ mm) (hl : l.length = n) (hlt : mm.length < n) : ∃ pre' x, l = pre' ++ x :: mm := by
  have hp : pre ≠ [] := by intro e; subst e; rw [List.nil_append] at h; subst h; omega
  refine ⟨pre.dropLast, pre.getLast hp, ?_⟩
  rw [h, List.append_cons, List.dropLast_concat_getLast hp]
theorem snoc_ofK {pre : List KW} {l mm : List KW} {n : Nat} (h : l = pre ++ mm) (hl : l.length = n) (hlt : mm.length < n) : ∃ pre' x, l = pre' ++ x :: mm := by
  have hp : pre ≠ [] := by intro e; subst e; rw [List.nil_append] at h; subst h; omega
  refine ⟨pre.dropLast, pre.getLast hp, ?_⟩
  rw [h, List.append_cons, List.dropLast_concat_getLast hp]
theorem sideTs_len : ∀ l : List Wr, (sideTs l).length ≤ l.length
  | [] => Nat.le_refl _
  | x :: l => by
    have := sideTs_len l
    simp only [sideTs]
    split <;> simp <;> omega
theorem cntsOf_len : ∀ l : List Wr, (cntsOf l).length ≤ l.length
  | [] => Nat.le_refl _
  | x :: l => by
    have := cntsOf_len l
    simp only [cntsOf]
    split <;> simp <;> omega
theorem cntsK_len : ∀ l : List KW, (cntsK l).length ≤ l.length
  | [] => Nat.le_refl _
  | x :: l => by
    have := cntsK_len l
    simp only [cntsK]
    split <;> simp <;> omega

/-- the copied record, half filled -/
def CRel (cb wb sb : Nat) (X : Wk) (A : Sa) (R : Cp) (e : Int) (way : Nat) (sv : ByteArray) (w : World) (ts : List Tank) (cs : List Int) (wx : World) : Prop :=
  ∃ rx a4 n4 c4 a5 n5 c5, Step (fun j => j ≤ 2000) w free wx rx ∧ WCp wx rx wb X R ∧ (Blk wx sb A.src ∧ rx sb = none) ∧ (Blk wx (sb + 1) A.dst ∧ rx (sb + 1) = none) ∧ (Blk wx (sb + 1 + 1) [.int .i64 0, .int .i64 0, .int .i64 0, .string ⟨#[]⟩, .slice none 0 0, .slice none 0 0, .int .i64 0, .int .i64 0, .int .i64 0] ∧ rx (sb + 1 + 1) = none) ∧ rx cb = some 1000 ∧
    Blk wx cb [.int .i64 (R.tot : Int), .int .i64 e, .int .i64 (way : Int), .string sv, .slice a4 n4 c4, .slice a5 n5 c5, .int .i64 0, .int .i64 0, .int .i64 0] ∧ RowK wx rx 1001 1 a4 n4 c4 (ts.map hasS) ∧ RowK wx rx 1002 1 a5 n5 c5 (I3 cs)
theorem CRel.push4 {cb wb sb : Nat} {X : Wk} {A : Sa} {R : Cp} {e : Int} {way : Nat} {sv : ByteArray} {w : World} {ts : List Tank} {cs : List Int} {w0 wx wy : World} {a4 a5 a' : Option Addr} {n4 c4 n5 c5 c' : Nat} {rx : Own} {t : Tank} (hl : R.l.length ≤ 10)
    (hb : Below w0.heap.size w0 wx) (k1 : Step (fun j => j ≤ 2000) w free w0 rx) (k2 : WCp w0 rx wb X R) (k3 : Blk w0 sb A.src ∧ rx sb = none) (k4 : Blk w0 (sb + 1) A.dst ∧ rx (sb + 1) = none) (k5 : Blk w0 (sb + 1 + 1) [.int .i64 0, .int .i64 0, .int .i64 0, .string ⟨#[]⟩, .slice none 0 0, .slice none 0 0, .int .i64 0, .int .i64 0, .int .i64 0] ∧ rx (sb + 1 + 1) = none) (k6 : rx cb = some 1000)
    (k7 : Blk w0 cb [.int .i64 (R.tot : Int), .int .i64 e, .int .i64 (way : Int), .string sv, .slice a4 n4 c4, .slice a5 n5 c5, .int .i64 0, .int .i64 0, .int .i64 0]) (k8 : RowK w0 rx 1001 1 a4 n4 c4 (ts.map hasS)) (k9 : RowK w0 rx 1002 1 a5 n5 c5 (I3 cs))
    (hrow : Row 0 wy 1 a' (n4 + 1) c' (ts.map hasS ++ [hasS t])) (hgr : wx.grownBy wy (blockOf a4)) (hbk : blockOf a' = blockOf a4 ∨ blockOf a' = some wx.heap.size) :
    CRel cb wb sb X A R e way sv w (ts ++ [t]) cs (wy.setCell ⟨cb, 4, none⟩ (.slice a' (n4 + 1) c')) := by
  have hd : Step (fun _ => False) w0 rx wx rx := (Step.refl _ k1.bound).calm hb
  replace k1 := k1.calm hb
  replace k2 : WCp wx rx wb X R := ⟨k2.1.calm hd, k2.2⟩
  replace k3 := k3.1.free0 hd k3.2
  replace k4 := k4.1.free0 hd k4.2
  replace k5 := k5.1.free0 hd k5.2
  replace k7 := k7.step hd k6 id
  replace k8 := k8.step hd id
  replace k9 := k9.step hd id
  obtain ⟨r', g, kr, kb, kw⟩ := rowPushQ (k := 1001) (q := 1000) (j := 4) (by omega) k6 k7 k8 hrow hgr hbk k1.bound
  refine ⟨r', a', n4 + 1, c', a5, n5, c5, k1.trans (g.mono (fun j hj => by omega)), ⟨k2.1.step g (fun j hj => by omega) hl, k2.2⟩, k3.1.free0 g k3.2, k4.1.free0 g k4.2, k5.1.free0 g k5.2, kw, kb, ?_, k9.step g (by omega)⟩
  rw [List.map_append]
  exact kr
theorem CRel.push5 {cb wb sb : Nat} {X : Wk} {A : Sa} {R : Cp} {e : Int} {way : Nat} {sv : ByteArray} {w : World} {ts : List Tank} {cs : List Int} {w0 wx wy : World} {a4 a5 a' : Option Addr} {n4 c4 n5 c5 c' : Nat} {rx : Own} {c : Int} (hl : R.l.length ≤ 10)
    (hb : Below w0.heap.size w0 wx) (k1 : Step (fun j => j ≤ 2000) w free w0 rx) (k2 : WCp w0 rx wb X R) (k3 : Blk w0 sb A.src ∧ rx sb = none) (k4 : Blk w0 (sb + 1) A.dst ∧ rx (sb + 1) = none) (k5 : Blk w0 (sb + 1 + 1) [.int .i64 0, .int .i64 0, .int .i64 0, .string ⟨#[]⟩, .slice none 0 0, .slice none 0 0, .int .i64 0, .int .i64 0, .int .i64 0] ∧ rx (sb + 1 + 1) = none) (k6 : rx cb = some 1000)
    (k7 : Blk w0 cb [.int .i64 (R.tot : Int), .int .i64 e, .int .i64 (way : Int), .string sv, .slice a4 n4 c4, .slice a5 n5 c5, .int .i64 0, .int .i64 0, .int .i64 0]) (k8 : RowK w0 rx 1001 1 a4 n4 c4 (ts.map hasS)) (k9 : RowK w0 rx 1002 1 a5 n5 c5 (I3 cs))
    (hrow : Row 0 wy 1 a' (n5 + 1) c' (I3 cs ++ [.int .i64 c])) (hgr : wx.grownBy wy (blockOf a5)) (hbk : blockOf a' = blockOf a5 ∨ blockOf a' = some wx.heap.size) :
    CRel cb wb sb X A R e way sv w ts (cs ++ [c]) (wy.setCell ⟨cb, 5, none⟩ (.slice a' (n5 + 1) c')) := by
  have hd : Step (fun _ => False) w0 rx wx rx := (Step.refl _ k1.bound).calm hb
  replace k1 := k1.calm hb
  replace k2 : WCp wx rx wb X R := ⟨k2.1.calm hd, k2.2⟩
  replace k3 := k3.1.free0 hd k3.2
  replace k4 := k4.1.free0 hd k4.2
  replace k5 := k5.1.free0 hd k5.2
  replace k7 := k7.step hd k6 id
  replace k8 := k8.step hd id
  replace k9 := k9.step hd id
  obtain ⟨r', g, kr, kb, kw⟩ := rowPushQ (k := 1002) (q := 1000) (j := 5) (by omega) k6 k7 k9 hrow hgr hbk k1.bound
  refine ⟨r', a4, n4, c4, a', n5 + 1, c', k1.trans (g.mono (fun j hj => by omega)), ⟨k2.1.step g (fun j hj => by omega) hl, k2.2⟩, k3.1.free0 g k3.2, k4.1.free0 g k4.2, k5.1.free0 g k5.2, kw, kb, k8.step g (by omega), ?_⟩
  simpa [I3] using kr
theorem CRel.calm {cb wb sb : Nat} {X : Wk} {A : Sa} {R : Cp} {e : Int} {way : Nat} {sv : ByteArray} {w : World} {ts : List Tank} {cs : List Int} {wx wy : World} (h : CRel cb wb sb X A R e way sv w ts cs wx) (hb : Below wx.heap.size wx wy) : CRel cb wb sb X A R e way sv w ts cs wy := by
  obtain ⟨rx, a4, n4, c4, a5, n5, c5, g, hW, h1, h2, h3, ho, hB, hR4, hR5⟩ := h
  have hd : Step (fun _ => False) wx rx wy rx := (Step.refl _ g.bound).calm hb
  exact ⟨rx, a4, n4, c4, a5, n5, c5, g.calm hb, ⟨hW.1.calm hd, hW.2⟩, h1.1.free0 hd h1.2, h2.1.free0 hd h2.2, h3.1.free0 hd h3.2, ho, hB.step hd ho id, hR4.step hd id, hR5.step hd id⟩

set_option maxRecDepth 100000 in
set_option maxHeartbeats 8000000 in
theorem copyR {p F m way bulk : Nat} {A : Sa} {ps qs : List Pp} {zs tzs : List Int} {e : Int} {R : Cp} {w : World}
    (hZ : RdK w free none 1 A.sa A.sn A.sc (I3 zs)) (hP : Pipes w free A.pa A.pn A.pc ps) (hTZ : RdK w free none 1 A.ta A.tn A.tc (I3 tzs)) (hQ : Pipes w free A.qa A.qn A.qc qs) (hpn : A.pn ≤ 10) (hqn : A.qn ≤ 10)
    (hok : CpOk p ⟨upto ps A.pn, srcOf A.dat.data.toList zs A.early A.broken, uptoK qs A.qn, freshT tzs A.room A.over, 0⟩) (hbk0 : A.bk = (bulk : Int)) (hbk : A.rd = true → 1 ≤ bulk ∧ bulk ≤ 1000000) (hm1 : 1 ≤ m) (hm2 : m ≤ 1000000) (hF : (srcOf A.dat.data.toList zs A.early A.broken).rem p < F)
    (hres : copyM ⟨A.wr, fun _ => 0⟩ ⟨A.rd, fun _ => 0⟩ bulk m F ⟨upto ps A.pn, srcOf A.dat.data.toList zs A.early A.broken, uptoK qs A.qn, freshT tzs A.room A.over, 0⟩ = (R, e, (way : Int))) :
    Calls Tryd.prog 16 #[.agg #[.string A.dat, .slice A.sa A.sn A.sc, .bool A.early, .bool A.broken, .bool A.wr, .slice A.pa A.pn A.pc], .agg #[.slice A.ta A.tn A.tc, .int .i64 A.room, .bool A.over, .bool A.rd, .int .i64 A.bk, .slice A.qa A.qn A.qc], .int .i64 m] w (ToldP R.tot e way R.t R.s (sideTs R.l) (cntsOf R.l ++ cntsK R.k) w) := by
  have hbnd : Bnd w free := fun _ _ => rfl
  obtain ⟨wq, hwq⟩ : ∃ wq, ((w.alloc (.cells #[.string A.dat, .slice A.sa A.sn A.sc, .bool A.early, .bool A.broken, .bool A.wr, .slice A.pa A.pn A.pc] 25)).alloc (.cells #[.slice A.ta A.tn A.tc, .int .i64 A.room, .bool A.over, .bool A.rd, .int .i64 A.bk, .slice A.qa A.qn A.qc] 29)).alloc (.cells #[.int .i64 0, .int .i64 0, .int .i64 0, .string ⟨#[]⟩, .slice none 0 0, .slice none 0 0, .int .i64 0, .int .i64 0, .int .i64 0] 37) = wq := ⟨_, rfl⟩
  have hq0 : Step (fun _ => False) w free wq free := by rw [← hwq]; exact (((Step.refl _ hbnd).alloc _).alloc _).alloc _
  have hqs : wq.heap.size = w.heap.size + 3 := by rw [← hwq, sz_alloc, sz_alloc, sz_alloc]
  have hb1 : Blk wq w.heap.size A.src := by rw [← hwq]; exact ((Blk.new _ _ _).alloc _).alloc _
  have hb2 : Blk wq (w.heap.size + 1) A.dst := by rw [← hwq]; have := Blk.new (w.alloc (.cells #[.string A.dat, .slice A.sa A.sn A.sc, .bool A.early, .bool A.broken, .bool A.wr, .slice A.pa A.pn A.pc] 25)) #[.slice A.ta A.tn A.tc, .int .i64 A.room, .bool A.over, .bool A.rd, .int .i64 A.bk, .slice A.qa A.qn A.qc] 29; rw [sz_alloc] at this; exact this.alloc _
  have hb3 : Blk wq (w.heap.size + 1 + 1) [.int .i64 0, .int .i64 0, .int .i64 0, .string ⟨#[]⟩, .slice none 0 0, .slice none 0 0, .int .i64 0, .int .i64 0, .int .i64 0] := by rw [← hwq]; have := Blk.new ((w.alloc (.cells #[.string A.dat, .slice A.sa A.sn A.sc, .bool A.early, .bool A.broken, .bool A.wr, .slice A.pa A.pn A.pc] 25)).alloc (.cells #[.slice A.ta A.tn A.tc, .int .i64 A.room, .bool A.over, .bool A.rd, .int .i64 A.bk, .slice A.qa A.qn A.qc] 29)) #[.int .i64 0, .int .i64 0, .int .i64 0, .string ⟨#[]⟩, .slice none 0 0, .slice none 0 0, .int .i64 0, .int .i64 0, .int .i64 0] 37; rw [sz_alloc, sz_alloc] at this; exact this
  have hPq := hP.step hq0
  have hQq := hQ.step hq0
  have hZq := hZ.step hq0 (fun _ h => by cases h)
  have hTq := hTZ.step hq0 (fun _ h => by cases h)
  have hway : wayM A.wr ps A.rd qs = way ∧ way ≤ 2 := by
    have h1 := fastB_only A.wr ps A.pn hP.len
    have h2 := fastK_only A.rd qs A.qn hQ.len
    unfold copyM at hres
    dsimp only at hres
    rw [h1, h2] at hres
    unfold wayM
    by_cases k1 : (A.wr && onlyB ps) = true
    · rw [if_pos k1] at hres ⊢
      simp only [Prod.mk.injEq] at hres
      omega
    · rw [if_neg k1] at hres ⊢
      by_cases k2 : (A.rd && onlyB qs) = true
      · rw [if_pos k2] at hres ⊢
        simp only [Prod.mk.injEq] at hres
        omega
      · rw [if_neg k2] at hres ⊢
        simp only [Prod.mk.injEq] at hres
        omega
  have hst := startR hq0.bound hPq hQq hTq hpn hqn
  have HST := Lib.hid hst
  have HB1 := Lib.hid hb1
  have HB2 := Lib.hid hb2
  have HB3 := Lib.hid hb3
  have HQ0 := Lib.hid hq0
  have HPQ := Lib.hid hPq
  have HQQ := Lib.hid hQq
  have HZQ := Lib.hid hZq
  have HTQ := Lib.hid hTq
  have HQS := Lib.hid hqs
  have HSOK := Lib.hid (show R.s.ok by have h1 := copyM_sok (p := p) (sh := ⟨A.wr, fun _ => 0⟩) (sk := ⟨A.rd, fun _ => 0⟩) (bulk := bulk) (m := m) (F := F) hok hm1 (fun h => (hbk h).1); rw [hres] at h1; exact h1)
  have HWAY := Lib.hid hway
  have HPL := Lib.hid hP.len
  have HQL := Lib.hid hQ.len
  have HOK := Lib.hid hok
  have HRES := Lib.hid hres
  have HFF := Lib.hid hF
  have HBK0 := Lib.hid hbk0
  have HBK := Lib.hid hbk
  have c0 := hb1.cell 0 rfl
  have c1 := hb1.cell 1 rfl
  have c2 := hb1.cell 2 rfl
  have c3 := hb1.cell 3 rfl
  have c4 := hb1.cell 4 rfl
  have c5 := hb1.cell 5 rfl
  have d0 := hb2.cell 0 rfl
  have d1 := hb2.cell 1 rfl
  have d2 := hb2.cell 2 rfl
  have d3 := hb2.cell 3 rfl
  have d4 := hb2.cell 4 rfl
  have d5 := hb2.cell 5 rfl
  clear hst hb1 hb2 hb3 hq0 hPq hQq hZq hTq hqs hway hok hres hF hbk0 hbk hbnd hZ hP hTZ hQ
  go_enter Tryd.func16, Tryd.ntmps16
  go_wp2_with fail
  clear hwq c0 c1 c2 c3 c4 c5 d0 d1 d2 d3 d4 d5
  obtain ⟨sb, hsb⟩ : ∃ sb, w.heap.size = sb := ⟨_, rfl⟩
  have HSB := Lib.hid hsb
  rw [hsb] at HB1 HB2 HB3 ⊢
  clear hsb
  refine HST.out.mono ?_
  rintro e1 w1 ⟨wb, r1, tb, sb', db', Rr, bl, rfl, g1, hs⟩
  obtain ⟨hB1, hn1⟩ := HB1.out.free0 g1 rfl
  obtain ⟨hB2, hn2⟩ := HB2.out.free0 g1 rfl
  obtain ⟨hB3, hn3⟩ := HB3.out.free0 g1 rfl
  have c0 := hB1.cell 0 rfl
  have c1 := hB1.cell 1 rfl
  have c2 := hB1.cell 2 rfl
  have c3 := hB1.cell 3 rfl
  have c4 := hB1.cell 4 rfl
  have c5 := hB1.cell 5 rfl
  have d0 := hB2.cell 0 rfl
  have d1 := hB2.cell 1 rfl
  have d2 := hB2.cell 2 rfl
  have d3 := hB2.cell 3 rfl
  have d4 := hB2.cell 4 rfl
  have d5 := hB2.cell 5 rfl
  have hwy := wayR (dat := A.dat) (sa := A.sa) (sn := A.sn) (sc := A.sc) (early := A.early) (broken := A.broken) (ta := A.ta) (tn := A.tn) (tc := A.tc) (tover := A.over) (troom := A.room) (tbk := A.bk) g1.bound (HPQ.out.step g1) (HQQ.out.step g1) HWAY.out.1
  have HWY := Lib.hid hwy
  have hwk := startWork rfl hs (HPQ.out.step g1) (HQQ.out.step g1) (HZQ.out.step g1 (fun _ h => by cases h))
  have HWK := Lib.hid (And.intro g1 hwk)
  have G1 := Lib.hid ((HQ0.out.mono (K' := fun j => j ≤ 2000) (fun _ h => h.elim)).trans (g1.mono (fun j hj => by omega)))
  have HB1 := Lib.hid (And.intro hB1 hn1)
  have HB2 := Lib.hid (And.intro hB2 hn2)
  have HB3 := Lib.hid (And.intro hB3 hn3)
  clear hwy hwk g1 hs hB1 hB2 hB3 hn1 hn2 hn3 HST
  go_wp2_with fail
  clear c0 c1 c2 c3 c4 c5 d0 d1 d2 d3 d4 d5
  refine HWY.out.mono ?_
  rintro e2 w2 ⟨rfl, hb2⟩
  have G2 := Lib.hid hb2
  clear hb2 HWY
  go_upto_block 0 with (fail)
  have hx3 : Step (fun j => j = 1000) w1 r1 (w2.alloc (.cells #[.int .i64 0, .int .i64 0, .int .i64 (way : Int), .string ⟨#[]⟩, .slice none 0 0, .slice none 0 0, .int .i64 0, .int .i64 0, .int .i64 0] 37)) (r1.give w2.heap.size 1000) :=
    (((Step.refl _ HWK.out.1.bound).calm G2.out).alloc _).give G2.out.size (by rw [sz_alloc]; omega) rfl
  have hb4 : Blk (w2.alloc (.cells #[.int .i64 0, .int .i64 0, .int .i64 (way : Int), .string ⟨#[]⟩, .slice none 0 0, .slice none 0 0, .int .i64 0, .int .i64 0, .int .i64 0] 37)) w2.heap.size [.int .i64 0, .int .i64 0, .int .i64 (way : Int), .string ⟨#[]⟩, .slice none 0 0, .slice none 0 0, .int .i64 0, .int .i64 0, .int .i64 0] := Blk.new _ _ _
  generalize w2.alloc (.cells #[.int .i64 0, .int .i64 0, .int .i64 (way : Int), .string ⟨#[]⟩, .slice none 0 0, .slice none 0 0, .int .i64 0, .int .i64 0, .int .i64 0] 37) = w3 at hx3 hb4 ⊢
  have hcbo : (r1.give w2.heap.size 1000) w2.heap.size = some 1000 := Own.give_same _ _ _
  generalize w2.heap.size = cb at hx3 hb4 hcbo ⊢
  generalize r1.give cb 1000 = r3 at hx3 hcbo
  have hX : (wkOf A ps qs Rr tb bl).pn = A.pn ∧ (wkOf A ps qs Rr tb bl).qn = A.qn ∧ (wkOf A ps qs Rr tb bl).bk = A.bk ∧ (wkOf A ps qs Rr tb bl).dat = A.dat ∧ (wkOf A ps qs Rr tb bl).pa = A.pa ∧ (wkOf A ps qs Rr tb bl).pc = A.pc ∧ (wkOf A ps qs Rr tb bl).qa = A.qa ∧ (wkOf A ps qs Rr tb bl).qc = A.qc ∧ (wkOf A ps qs Rr tb bl).qs = qs := ⟨rfl, rfl, rfl, rfl, rfl, rfl, rfl, rfl, rfl⟩
  have hwk3 : WCp w3 r3 wb (wkOf A ps qs Rr tb bl) ⟨upto ps A.pn, srcOf A.dat.data.toList zs A.early A.broken, uptoK qs A.qn, freshT tzs A.room A.over, 0⟩ := ⟨HWK.out.2.1.step hx3 (fun j hj => by omega) (by rw [HWK.out.2.1.len]; exact hpn), HWK.out.2.2⟩
  have HX := Lib.hid hX
  generalize wkOf A ps qs Rr tb bl = X at hwk3 HX
  clear hX HWK
  have hu1 := HB1.out.1.free0 hx3 HB1.out.2
  have hu2 := HB2.out.1.free0 hx3 HB2.out.2
  have hu3 := HB3.out.1.free0 hx3 HB3.out.2
  have hG3 : Step (fun j => j ≤ 2000) w free w3 r3 := G1.out.trans (hx3.mono (fun j hj => by omega))
  have G3 := Lib.hid hG3
  have HU1 := Lib.hid hu1
  have HU2 := Lib.hid hu2
  have HU3 := Lib.hid hu3
  have HCB := Lib.hid (And.intro hb4 hcbo)
  have HWK := Lib.hid hwk3
  have HX3 := Lib.hid hx3
  clear hu1 hu2 hu3 hb4 hcbo hwk3 hG3 hx3 G1 G2 HB1 HB2 HB3 HPQ HQQ HZQ HTQ
  go_cut [] from 11 (fun wx => RowKit.Hid (∃ rx, Step (fun j => j ≤ 1000) w3 r3 wx rx ∧ WCp wx rx wb X R ∧ Blk wx cb [.int .i64 (R.tot : Int), .int .i64 e, .int .i64 (way : Int), .string ⟨#[]⟩, .slice none 0 0, .slice none 0 0, .int .i64 0, .int .i64 0, .int .i64 0] ∧ rx cb = some 1000))
  case first =>
    have hres := HRES.out
    have hwy := HWAY.out
    unfold copyM at hres
    dsimp only at hres
    rw [fastB_only A.wr ps A.pn HPL.out, fastK_only A.rd qs A.qn HQL.out] at hres
    unfold wayM at hwy
    by_cases k1 : (A.wr && onlyB ps) = true
    · rw [if_pos k1] at hres hwy
      obtain ⟨hw1, hz8⟩ := hwy; clear hz8
      subst hw1
      simp only [Prod.mk.injEq] at hres
      obtain ⟨hR, he, hz9⟩ := hres; clear hz9
      have hrun := writesR HWK.out HOK.out HX3.out.bound (by exact (congrArg Cp.tot hR : _)) he
      rw [hR] at hrun
      have HRUN := Lib.hid hrun
      clear hrun k1 hR he
      go_wp2_with fail
      refine HRUN.out.mono ?_
      rintro e4 w4 ⟨rfl, r4, g4, hW4⟩
      have hB4 := HCB.out.1.step g4 HCB.out.2 (by unfold KW3; omega)
      have ho4 := g4.oldK HCB.out.1.lt HCB.out.2
      have c0 := hB4.cell 0 rfl
      have c1 := hB4.cell 1 rfl
      have f0 := hB4.free 0 (by simp)
      have f1 := hB4.free 1 (by simp)
      have HB4 := Lib.hid (And.intro hB4 ho4)
      have G4 := Lib.hid g4
      have HW4 := Lib.hid hW4
      clear g4 hW4 hB4 ho4
      go_wp2_with fail
      go_meet
      case rel =>
        have g5 : Step (fun j => j = 1000) w4 r4 ((w4.setCell ⟨cb, 0, none⟩ (.int .i64 (R.tot : Int))).setCell ⟨cb, 1, none⟩ (.int .i64 e)) r4 := ((Step.refl (fun j => j = 1000) G4.out.bound).put (p := ⟨cb, 0, none⟩) _ (fun _ => ⟨1000, HB4.out.2, rfl⟩)).put (p := ⟨cb, 1, none⟩) _ (fun _ => ⟨1000, HB4.out.2, rfl⟩)
        refine Lib.hid ⟨r4, (G4.out.mono (fun j hj => by unfold KW3 at hj; omega)).trans (g5.mono (fun j hj => by omega)), ⟨HW4.out.1.step g5 (fun j hj => by omega) (by rw [HW4.out.1.len, HX.out.1]; exact hpn), HW4.out.2⟩, (HB4.out.1.set (j := 0) _).set (j := 1) _, HB4.out.2⟩
    · rw [if_neg k1] at hres hwy
      by_cases k2 : (A.rd && onlyB qs) = true
      · rw [if_pos k2] at hres hwy
        obtain ⟨hw1, hz8⟩ := hwy; clear hz8
        subst hw1
        simp only [Prod.mk.injEq] at hres
        obtain ⟨hR, he, hz9⟩ := hres; clear hz9
        have hrd : A.rd = true := by simp at k2; exact k2.1
        have hb9 := HBK.out hrd
        have hrun := readsR (Res := readsM bulk F ⟨upto ps A.pn, srcOf A.dat.data.toList zs A.early A.broken, uptoK qs A.qn, freshT tzs A.room A.over, 0⟩) (m := bulk) (HX.out.2.2.1.trans HBK0.out) HWK.out HOK.out (by rw [upto_len (by rw [HPL.out]; exact Nat.le_refl _)]; omega) hb9.1 hb9.2 HX3.out.bound rfl HFF.out rfl (congrArg Cp.tot hR) he
        rw [hR] at hrun
        have HRUN := Lib.hid hrun
        clear hrun k1 k2 hR he hrd hb9
        go_wp2_with fail
        refine HRUN.out.mono ?_
        rintro e4 w4 ⟨rfl, r4, g4, hW4⟩
        have hB4 := HCB.out.1.step g4 HCB.out.2 (by unfold KW3; omega)
        have ho4 := g4.oldK HCB.out.1.lt HCB.out.2
        have c0 := hB4.cell 0 rfl
        have c1 := hB4.cell 1 rfl
        have f0 := hB4.free 0 (by simp)
        have f1 := hB4.free 1 (by simp)
        have HB4 := Lib.hid (And.intro hB4 ho4)
        have G4 := Lib.hid g4
        have HW4 := Lib.hid hW4
        clear g4 hW4 hB4 ho4
        go_wp2_with fail
        go_meet
        case rel =>
          have g5 : Step (fun j => j = 1000) w4 r4 ((w4.setCell ⟨cb, 0, none⟩ (.int .i64 (R.tot : Int))).setCell ⟨cb, 1, none⟩ (.int .i64 e)) r4 := ((Step.refl (fun j => j = 1000) G4.out.bound).put (p := ⟨cb, 0, none⟩) _ (fun _ => ⟨1000, HB4.out.2, rfl⟩)).put (p := ⟨cb, 1, none⟩) _ (fun _ => ⟨1000, HB4.out.2, rfl⟩)
          refine Lib.hid ⟨r4, (G4.out.mono (fun j hj => by unfold KW3 at hj; omega)).trans (g5.mono (fun j hj => by omega)), ⟨HW4.out.1.step g5 (fun j hj => by omega) (by rw [HW4.out.1.len, HX.out.1]; exact hpn), HW4.out.2⟩, (HB4.out.1.set (j := 0) _).set (j := 1) _, HB4.out.2⟩
      · rw [if_neg k2] at hres hwy
        obtain ⟨hw1, hz8⟩ := hwy; clear hz8
        subst hw1
        simp only [Prod.mk.injEq] at hres
        obtain ⟨hR, he, hz9⟩ := hres; clear hz9
        have hrun := bufferR (Res := runM (bufRound m) F ⟨upto ps A.pn, srcOf A.dat.data.toList zs A.early A.broken, uptoK qs A.qn, freshT tzs A.room A.over, 0⟩) HWK.out HOK.out (by rw [upto_len (by rw [HPL.out]; exact Nat.le_refl _)]; omega) hm1 hm2 HX3.out.bound rfl HFF.out rfl (congrArg Cp.tot hR) he
        rw [hR] at hrun
        have HRUN := Lib.hid hrun
        clear hrun k1 k2 hR he
        go_wp2_with fail
        refine HRUN.out.mono ?_
        rintro e4 w4 ⟨rfl, r4, g4, hW4⟩
        have hB4 := HCB.out.1.step g4 HCB.out.2 (by unfold KW3; omega)
        have ho4 := g4.oldK HCB.out.1.lt HCB.out.2
        have c0 := hB4.cell 0 rfl
        have c1 := hB4.cell 1 rfl
        have f0 := hB4.free 0 (by simp)
        have f1 := hB4.free 1 (by simp)
        have HB4 := Lib.hid (And.intro hB4 ho4)
        have G4 := Lib.hid g4
        have HW4 := Lib.hid hW4
        clear g4 hW4 hB4 ho4
        go_wp2_with fail
        go_meet
        case rel =>
          have g5 : Step (fun j => j = 1000) w4 r4 ((w4.setCell ⟨cb, 0, none⟩ (.int .i64 (R.tot : Int))).setCell ⟨cb, 1, none⟩ (.int .i64 e)) r4 := ((Step.refl (fun j => j = 1000) G4.out.bound).put (p := ⟨cb, 0, none⟩) _ (fun _ => ⟨1000, HB4.out.2, rfl⟩)).put (p := ⟨cb, 1, none⟩) _ (fun _ => ⟨1000, HB4.out.2, rfl⟩)
          refine Lib.hid ⟨r4, (G4.out.mono (fun j hj => by unfold KW3 at hj; omega)).trans (g5.mono (fun j hj => by omega)), ⟨HW4.out.1.step g5 (fun j hj => by omega) (by rw [HW4.out.1.len, HX.out.1]; exact hpn), HW4.out.2⟩, (HB4.out.1.set (j := 0) _).set (j := 1) _, HB4.out.2⟩
  case rest =>
  obtain ⟨r4, g4, hW4, hB4, ho4⟩ := hcut.out
  rename World => w4
  have hrel0 : CRel cb wb sb X A R e way ⟨#[]⟩ w [] [] w4 := by
    have h5 := G3.out.trans (g4.mono (K' := fun j => j ≤ 2000) (fun j hj => by omega))
    exact ⟨r4, none, 0, 0, none, 0, 0, h5, hW4, HU1.out.1.free0 g4 HU1.out.2, HU2.out.1.free0 g4 HU2.out.2, HU3.out.1.free0 g4 HU3.out.2, ho4, hB4, ⟨Row.nil _ _ _, fun x hx => by cases hx⟩, ⟨Row.nil _ _ _, fun x hx => by cases hx⟩⟩
  obtain ⟨sv, hsv⟩ : ∃ sv, hasS R.t = Value.string sv := ⟨_, rfl⟩
  have hsv' : (⟨R.t.has.toArray⟩ : ByteArray) = sv := by unfold hasS at hsv; exact Value.string.inj hsv
  obtain ⟨ta9, tn9, tc9, ha, hn, hc, htb, hTB, _, hHH, _⟩ := hW4.1.2.2.2.2.2.2.2.2.2.2.1
  have c18 := hW4.1.2.1.cell 18 rfl
  have t5 := hTB.cell 5 rfl
  have hcv : (convert 78 9 (.slice ha hn hc)).run Tryd.prog w4 = .ok (.string sv) w4 := by rw [← hsv']; exact conv_row hHH.1.rd
  have b3 := hB4.free 3 (by simp)
  have b3c := hB4.cell 3 rfl
  have hg9 : Step (fun j => j = 1000) w4 r4 (w4.setCell ⟨cb, 3, none⟩ (.string sv)) r4 := (Step.refl (fun j => j = 1000) g4.bound).put (p := ⟨cb, 3, none⟩) _ (fun _ => ⟨1000, ho4, rfl⟩)
  have hrel1 : CRel cb wb sb X A R e way sv w [] [] (w4.setCell ⟨cb, 3, none⟩ (.string sv)) := by
    obtain ⟨rx, a4, n4, c4, a5, n5, c5, k1, k2, k3, k4, k5, k6, k7, k8, k9⟩ := hrel0
    have hg9 : Step (fun j => j = 1000) w4 rx (w4.setCell ⟨cb, 3, none⟩ (.string sv)) rx := (Step.refl (fun j => j = 1000) k1.bound).put (p := ⟨cb, 3, none⟩) _ (fun _ => ⟨1000, k6, rfl⟩)
    exact ⟨rx, a4, n4, c4, a5, n5, c5, k1.trans (hg9.mono (fun j hj => by omega)), ⟨k2.1.step hg9 (fun j hj => by omega) (by rw [k2.1.len, HX.out.1]; exact hpn), k2.2⟩, k3.1.free0 hg9 k3.2, k4.1.free0 hg9 k4.2, k5.1.free0 hg9 k5.2, k6, k7.set (j := 3) _, k8.step hg9 (by omega), k9.step hg9 (by omega)⟩
  have HREL1 := Lib.hid hrel1
  have HSV := Lib.hid hsv
  have hll : R.l.length = A.pn := by rw [hW4.1.len, HX.out.1]
  have hkl : R.k.length = A.qn := by
    have h1 := congrArg List.length hW4.2
    rw [List.length_map, List.length_map, List.length_reverse, HX.out.2.2.2.2.2.2.2.2, HQL.out] at h1
    exact h1
  have HLL := Lib.hid hll
  have HKL := Lib.hid hkl
  clear hrel0 hrel1 hg9 g4 hW4 hB4 ho4 htb hTB hHH hsv' hsv HU1 HU2 HU3 HCB HWK HX3 G3 hll hkl hcut
  go_wp2_with fail
  clear hcv c18 t5 b3 b3c
  generalize w4.setCell ⟨cb, 3, none⟩ (.string sv) = w5 at HREL1 ⊢
  obtain ⟨i9, z0, z1, z2, z3⟩ := strInfo
  obtain ⟨i2, y0, y1, y2, y3⟩ := i64Info
  go_loopw [9] (fun ix wr => ∃ i pre mm, i ≤ A.pn ∧ ix = .int .i64 ((i : Nat) : Int) ∧ R.l = pre ++ mm ∧ mm.length = i ∧ CRel cb wb sb X A R e way sv w (sideTs mm) (cntsOf mm) wr) (fun ix _ => A.pn - (intOf ix).toNat)
  case atStart => exact ⟨0, R.l, [], Nat.zero_le _, rfl, by simp, rfl, HREL1.out⟩
  case round =>
    obtain ⟨i, pre, mm, hi, rfl, hpre, hmi, hrel⟩ := hrel
    obtain ⟨rx, a4, n4, c4, a5, n5, c5, k1, k2, k3, k4, k5, k6, k7, k8, k9⟩ := id hrel
    clear HREL1
    have HREL := Lib.hid hrel
    have cS := k3.1.cell 5 rfl
    by_cases hlt : i < A.pn
    · obtain ⟨pre', x, hpx⟩ := snoc_of hpre HLL.out (by omega)
      have hWx := k2.1
      rw [hpx] at hWx
      obtain ⟨b, off, p, hpa, hb, hpo, hcell⟩ := hWx.pipe
      rw [HX.out.2.2.2.2.1] at hpa
      rw [hpa] at cS
      have q0 := hcell 0 (by omega)
      simp only [Pp.cells, List.getElem?_cons_zero, Nat.add_zero] at q0
      rw [hpo, hmi] at q0
      have hpcl := hWx.2.2.2.2.1.1.1.le
      have hpcm := hWx.2.2.2.2.1.1.1.max
      rw [HX.out.1, HX.out.2.2.2.2.2.1] at hpcl
      rw [HX.out.2.2.2.2.2.1] at hpcm
      unfold maxLen at hpcm
      have hli : (i : Int) < A.pn := by omega
      have HPA := Lib.hid hpa
      have HPX := Lib.hid hpx
      have HMI := Lib.hid hmi
      have HWX := Lib.hid hWx
      have hn4 : n4 ≤ 10 := by
        have h1 := k8.1.rd.len
        have h2 := sideTs_len mm
        rw [List.length_map] at h1
        omega
      have HK := Lib.hid (And.intro k1 (And.intro k2 (And.intro k3 (And.intro k4 (And.intro k5 (And.intro k6 (And.intro k7 (And.intro k8 k9))))))))
      have e4 := k7.cell 4 rfl
      have f4 := k7.free 4 (by simp)
      have hcbl := k7.lt
      have HK8 := Lib.hid k8
      clear hpa hpx hpre hmi hrel hWx hcell k1 k2 k3 k4 k5 k6 k7 k8 k9 hpo
      go_upto_if 68 with (fail)
      go_cut [9] from 55 to 103 (fun s9 wx => s9 = .int .i64 ((i : Nat) : Int) ∧ RowKit.Hid (CRel cb wb sb X A R e way sv w (sideTs (x :: mm)) (cntsOf mm) wx))
      case first =>
        by_cases h4 : x.op = 4
        · have h4' : (x.op == 4) = true := by simpa using h4
          have HS4 := Lib.hid (show sideTs (x :: mm) = sideTs mm ++ [x.tank] by simp only [sideTs]; rw [if_pos h4])
          clear h4
          obtain ⟨⟨b2, o2, ha2, hb2, hpt⟩, rd9, bk9, hT9⟩ := HWX.out.sideAt
          rw [HMI.out] at hpt hT9
          have hc2l := HWX.out.2.2.2.2.2.2.2.1.1.rd.le
          have hc2m := HWX.out.2.2.2.2.2.2.2.1.1.rd.max
          rw [HX.out.1] at hc2l
          unfold maxLen at hc2m
          have c15 := HWX.out.2.1.cell 15 rfl
          rw [ha2, HX.out.1] at c15
          have hwlt := HWX.out.2.1.lt
          obtain ⟨xa9, xn9, xc9, hak, hnk, hck, _, hTB9, _, hHk, _⟩ := hT9
          obtain ⟨svk, hsvk⟩ : ∃ svk, hasS x.tank = Value.string svk := ⟨_, rfl⟩
          have hsvk' : (⟨x.tank.has.toArray⟩ : ByteArray) = svk := by unfold hasS at hsvk; exact Value.string.inj hsvk
          have hcvk : (convert 78 9 (.slice hak hnk hck)).run Tryd.prog wr.drew = .ok (.string svk) wr.drew := by rw [← hsvk']; exact conv_row hHk.1.rd.drew
          have t5 := hTB9.cell 5 rfl
          have htlt := hTB9.lt
          have hne : ∀ y, blockOf a4 = some y → y ≠ cb := fun y hy e => by subst e; have h1 := HK8.out.2 y hy; rw [HK.out.2.2.2.2.2.1] at h1; cases h1
          have HSVK := Lib.hid hsvk
          clear hsvk hsvk' hHk hTB9 ha2
          go_wp2_with fail
          go_region_law (first | (refine step_append_row rfl _ _ 34 34 rfl 9 i9 (.string ⟨#[]⟩) 1 16 Tryd.underlying34 z0 z1 z2 z3 rfl rfl ((HK8.out.1.alloc _).drew) 1 [.string svk] (Src.ofRd Tryd.underlying34 (Rd.one _ _ _).drew (by intro u hu; simp at hu; subst hu; rfl)) (by unfold maxLen; omega) (by omega) (Nat.zero_le _) ?_; intro a' c' w6 hrow hgr hbk; have HROW := Lib.hid hrow; have HGR := Lib.hid hgr; have HBKK := Lib.hid hbk; clear hrow hgr hbk; have BB2 := Lib.hid ((HK.out.2.2.2.2.2.2.1.alloc _).drew.grown HGR.out (fun e => hne _ e rfl)); have e4'' := BB2.out.cell 4 rfl; have f4'' := BB2.out.free 4 (by simp)))
          all_goals
            go_wp2_with fail
            go_meet
            case rel =>
              obtain ⟨k1, k2, k3, k4, k5, k6, k7, k8, k9⟩ := HK.out
              refine ⟨rfl, Lib.hid ?_⟩
              rw [HS4.out]
              exact CRel.push4 (by rw [HLL.out]; exact hpn) (((Below.refl _ wr).alloc (Nat.le_refl _) _).drew) k1 k2 k3 k4 k5 k6 k7 k8 k9 (by rw [HSVK.out]; exact HROW.out) HGR.out HBKK.out
        · have h4' : (x.op == 4) = false := by simpa using h4
          have HS4 := Lib.hid (show sideTs (x :: mm) = sideTs mm by simp only [sideTs]; rw [if_neg h4])
          clear h4
          go_wp2_with fail
          go_meet
          case rel => exact ⟨rfl, Lib.hid (by rw [HS4.out]; exact HREL.out)⟩
      case rest =>
      obtain ⟨rfl, HX2⟩ := hcut
      rename World => w6
      clear HK HK8 HWX HREL e4 f4 hcbl q0 hn4 cS hb
      obtain ⟨rx, a4, n4, c4, a5, n5, c5, k1, k2, k3, k4, k5, k6, k7, k8, k9⟩ := HX2.out
      have cS := k3.1.cell 5 rfl
      have hWx := k2.1
      rw [HPX.out] at hWx
      obtain ⟨b', off', p', hpa', hb', hpo', hcell'⟩ := hWx.pipe
      rw [HX.out.2.2.2.2.1, HPA.out] at hpa'
      cases hpa'
      rw [HPA.out] at cS
      have q0 := hcell' 0 (by omega)
      simp only [Pp.cells, List.getElem?_cons_zero, Nat.add_zero] at q0
      rw [hpo', HMI.out] at q0
      have hn5 : n5 ≤ 10 := by
        have h1 := k9.1.rd.len
        have h2 := cntsOf_len mm
        have h3 := HMI.out
        simp [I3] at h1
        omega
      have HK := Lib.hid (And.intro k1 (And.intro k2 (And.intro k3 (And.intro k4 (And.intro k5 (And.intro k6 (And.intro k7 (And.intro k8 k9))))))))
      have e5 := k7.cell 5 rfl
      have f5 := k7.free 5 (by simp)
      have hcbl := k7.lt
      have HK9 := Lib.hid k9
      have HWX := Lib.hid hWx
      clear hWx hcell' k1 k2 k3 k4 k5 k6 k7 k8 k9 hpo'
      by_cases h2 : x.op = 2
      · have h2' : (x.op == 2) = true := by simpa using h2
        have HS4 := Lib.hid (show cntsOf (x :: mm) = cntsOf mm ++ [x.cnt] by simp only [cntsOf]; rw [if_pos h2])
        clear h2
        obtain ⟨b2, o2, ha3, hb2, hpt, _, _⟩ := HWX.out.cntAt
        rw [HMI.out] at hpt
        have hc2l := HWX.out.2.2.2.2.2.2.2.2.1.1.rd.le
        have hc2m := HWX.out.2.2.2.2.2.2.2.2.1.1.rd.max
        rw [HX.out.1] at hc2l
        unfold maxLen at hc2m
        have c16 := HWX.out.2.1.cell 16 rfl
        rw [ha3, HX.out.1] at c16
        have hwlt := HWX.out.2.1.lt
        have hne : ∀ y, blockOf a5 = some y → y ≠ cb := fun y hy e => by subst e; have h1 := HK9.out.2 y hy; rw [HK.out.2.2.2.2.2.1] at h1; cases h1
        clear ha3
        go_wp2_with fail
        go_region_law (first | (refine step_append_row rfl _ _ 35 35 rfl 2 i2 (.int .i64 0) 1 8 Tryd.underlying35 y0 y1 y2 y3 rfl rfl ((HK9.out.1.alloc _).drew) 1 [.int .i64 x.cnt] (Src.ofRd Tryd.underlying35 (Rd.one _ _ _).drew (by intro u hu; simp at hu; subst hu; rfl)) (by unfold maxLen; omega) (by omega) (Nat.zero_le _) ?_; intro a' c' w7 hrow hgr hbk; have HROW := Lib.hid hrow; have HGR := Lib.hid hgr; have HBKK := Lib.hid hbk; clear hrow hgr hbk; have BB2 := Lib.hid ((HK.out.2.2.2.2.2.2.1.alloc _).drew.grown HGR.out (fun e => hne _ e rfl)); have e5'' := BB2.out.cell 5 rfl; have f5'' := BB2.out.free 5 (by simp)))
        all_goals
          go_wp2_with fail
          go_roundw
          case rel =>
            obtain ⟨k1, k2, k3, k4, k5, k6, k7, k8, k9⟩ := HK.out
            refine ⟨i + 1, pre', x :: mm, by omega, by go_num, HPX.out, by rw [List.length_cons, HMI.out], ?_⟩
            rw [HS4.out]
            exact CRel.push5 (by rw [HLL.out]; exact hpn) (((Below.refl _ w6).alloc (Nat.le_refl _) _).drew) k1 k2 k3 k4 k5 k6 k7 k8 k9 HROW.out HGR.out HBKK.out
          case measure => simp [intOf]; omega
      · have h2' : (x.op == 2) = false := by simpa using h2
        have HS4 := Lib.hid (show cntsOf (x :: mm) = cntsOf mm by simp only [cntsOf]; rw [if_neg h2])
        clear h2
        go_wp2_with fail
        go_roundw
        case rel =>
          refine ⟨i + 1, pre', x :: mm, by omega, by go_num, HPX.out, by rw [List.length_cons, HMI.out], ?_⟩
          rw [HS4.out]
          exact HX2.out
        case measure => simp [intOf]; omega
    · obtain rfl : i = A.pn := by omega
      have hmm : mm = R.l := by
        have h1 := congrArg List.length hpre
        rw [List.length_append, HLL.out] at h1
        have : pre = [] := List.eq_nil_of_length_eq_zero (by omega)
        rw [hpre, this, List.nil_append]
      have HREL2 := Lib.hid (show CRel cb wb sb X A R e way sv w (sideTs R.l) (cntsOf R.l ++ cntsK []) wr by rw [← hmm, show cntsK [] = [] from rfl, List.append_nil]; exact hrel)
      have hni : ¬ ((A.pn : Int) < A.pn) := by omega
      clear hmm hpre hmi hrel HREL k1 k2 k3 k4 k5 k6 k7 k8 k9
      go_wp2_with fail
      clear cS
      rename World => w8
      go_loopw [10] (fun ix wr => ∃ j pre mk, j ≤ A.qn ∧ ix = .int .i64 ((j : Nat) : Int) ∧ R.k = pre ++ mk ∧ mk.length = j ∧ CRel cb wb sb X A R e way sv w (sideTs R.l) (cntsOf R.l ++ cntsK mk) wr) (fun ix _ => A.qn - (intOf ix).toNat)
      case atStart => exact ⟨0, R.k, [], Nat.zero_le _, rfl, by simp, rfl, HREL2.out⟩
      case round =>
        obtain ⟨j, pre, mk, hj, rfl, hpre, hmj, hrel⟩ := hrel
        obtain ⟨rx, a4, n4, c4, a5, n5, c5, k1, k2, k3, k4, k5, k6, k7, k8, k9⟩ := id hrel
        clear HREL2
        have HREL := Lib.hid hrel
        have cD := k4.1.cell 5 rfl
        by_cases hlt : j < A.qn
        · obtain ⟨pre', x, hpx⟩ := snoc_ofK hpre HKL.out (by omega)
          have hQ := k2.1.2.2.2.2.2.1
          obtain ⟨b, off, q, hqa, hb, hqk, _, hcell⟩ := hQ.at (k := j) (by rw [HX.out.2.1]; exact hlt)
          have hqx : x.1 = (q.op == 2) := by
            have h1 := k2.2
            rw [hpx, List.reverse_append, List.reverse_cons, List.append_assoc] at h1
            have h2 := congrArg (fun l => l[j]?) h1
            simp only [List.getElem?_map, hqk] at h2
            rw [List.getElem?_append_right (by rw [List.length_reverse]; omega), List.length_reverse, hmj, Nat.sub_self] at h2
            simpa using h2
          have hkx : (ksOf R.k)[j]? = some x.2 := by
            unfold ksOf
            rw [hpx, List.reverse_append, List.reverse_cons, List.append_assoc, List.getElem?_map, List.getElem?_append_right (by rw [List.length_reverse]; omega), List.length_reverse, hmj, Nat.sub_self]
            rfl
          rw [HX.out.2.2.2.2.2.2.1] at hqa
          rw [hqa] at cD
          have q0 := hcell 0 (by omega)
          simp only [Pp.cells, List.getElem?_cons_zero, Nat.add_zero] at q0
          have hqcl := hQ.1.1.le
          have hqcm := hQ.1.1.max
          rw [HX.out.2.1, HX.out.2.2.2.2.2.2.2.1] at hqcl
          rw [HX.out.2.2.2.2.2.2.2.1] at hqcm
          unfold maxLen at hqcm
          have hlj : (j : Int) < A.qn := by omega
          have HPX := Lib.hid hpx
          have HMJ := Lib.hid hmj
          have hn5 : n5 ≤ 20 := by
            have h1 := k9.1.rd.len
            have h2 := cntsOf_len R.l
            have h3 := cntsK_len mk
            have h4 := HLL.out
            simp [I3] at h1
            omega
          have hR4 := k2.1.2.2.2.2.2.2.2.2.2.1
          obtain ⟨b2, o2, ha4, hb2, hval⟩ := hR4.1.rd.at1 (k := j) (by rw [HX.out.2.1]; exact hlt)
          rw [I3, List.getElem?_map, hkx] at hval
          simp only [Option.map_some] at hval
          have hc2l := hR4.1.rd.le
          have hc2m := hR4.1.rd.max
          rw [HX.out.2.1] at hc2l
          unfold maxLen at hc2m
          have c17 := k2.1.2.1.cell 17 rfl
          rw [ha4, HX.out.2.1] at c17
          have hwlt := k2.1.2.1.lt
          have HK := Lib.hid (And.intro k1 (And.intro k2 (And.intro k3 (And.intro k4 (And.intro k5 (And.intro k6 (And.intro k7 (And.intro k8 k9))))))))
          have e5 := k7.cell 5 rfl
          have f5 := k7.free 5 (by simp)
          have hcbl := k7.lt
          have HK9 := Lib.hid k9
          have hne : ∀ y, blockOf a5 = some y → y ≠ cb := fun y hy e => by subst e; have h1 := HK9.out.2 y hy; rw [HK.out.2.2.2.2.2.1] at h1; cases h1
          obtain ⟨xc, hxc⟩ : ∃ xc, x.2 = xc := ⟨_, rfl⟩
          rw [hxc] at hval
          have HXC := Lib.hid hxc
          have HQX := Lib.hid hqx
          clear hqa hpx hpre hmj hrel hQ hcell k1 k2 k3 k4 k5 k6 k7 k8 k9 hqk hkx hR4 ha4 hxc hqx
          by_cases h2 : q.op = 2
          · have h2' : (q.op == 2) = true := by simpa using h2
            have HS4 := Lib.hid (show cntsK (x :: mk) = cntsK mk ++ [xc] by simp only [cntsK]; rw [if_pos (by rw [HQX.out]; exact h2'), HXC.out])
            clear h2
            go_wp2_with fail
            go_region_law (first | (refine step_append_row rfl _ _ 35 35 rfl 2 i2 (.int .i64 0) 1 8 Tryd.underlying35 y0 y1 y2 y3 rfl rfl ((HK9.out.1.alloc _).drew) 1 [.int .i64 xc] (Src.ofRd Tryd.underlying35 (Rd.one _ _ _).drew (by intro u hu; simp at hu; subst hu; rfl)) (by unfold maxLen; omega) (by omega) (Nat.zero_le _) ?_; intro a' c' w7 hrow hgr hbk; have HROW := Lib.hid hrow; have HGR := Lib.hid hgr; have HBKK := Lib.hid hbk; clear hrow hgr hbk; have BB2 := Lib.hid ((HK.out.2.2.2.2.2.2.1.alloc _).drew.grown HGR.out (fun e => hne _ e rfl)); have e5'' := BB2.out.cell 5 rfl; have f5'' := BB2.out.free 5 (by simp)))
            all_goals
              go_wp2_with fail
              go_roundw
              case rel =>
                obtain ⟨k1, k2, k3, k4, k5, k6, k7, k8, k9⟩ := HK.out
                refine ⟨j + 1, pre', x :: mk, by omega, by go_num, HPX.out, by rw [List.length_cons, HMJ.out], ?_⟩
                rw [HS4.out, ← List.append_assoc]
                exact CRel.push5 (by rw [HLL.out]; exact hpn) (((Below.refl _ wr).alloc (Nat.le_refl _) _).drew) k1 k2 k3 k4 k5 k6 k7 k8 k9 HROW.out HGR.out HBKK.out
              case measure => simp [intOf]; omega
          · have h2' : (q.op == 2) = false := by simpa using h2
            have HS4 := Lib.hid (show cntsK (x :: mk) = cntsK mk by simp only [cntsK]; rw [if_neg (by rw [HQX.out, h2']; simp)])
            clear h2
            go_wp2_with fail
            go_roundw
            case rel =>
              refine ⟨j + 1, pre', x :: mk, by omega, by go_num, HPX.out, by rw [List.length_cons, HMJ.out], ?_⟩
              rw [HS4.out]
              exact HREL.out
            case measure => simp [intOf]; omega
        · obtain rfl : j = A.qn := by omega
          have hmm : mk = R.k := by
            have h1 := congrArg List.length hpre
            rw [List.length_append, HKL.out] at h1
            have : pre = [] := List.eq_nil_of_length_eq_zero (by omega)
            rw [hpre, this, List.nil_append]
          have hnj : ¬ ((A.qn : Int) < A.qn) := by omega
          subst hmm
          have hsb := HSB.out
          have cS := k3.1.cell 0 rfl
          have c13 := k2.1.2.1.cell 13 rfl
          have c12 := k2.1.2.1.cell 12 rfl
          have c18 := k2.1.2.1.cell 18 rfl
          obtain ⟨ta9, tn9, tc9, ha, hn, hc, htb, hTB, _, hHH, _⟩ := id k2.1.2.2.2.2.2.2.2.2.2.2.1
          have t6 := hTB.cell 6 rfl
          have f6 := k7.free 6 (by simp)
          have f7 := k7.free 7 (by simp)
          have f8 := k7.free 8 (by simp)
          have b6 := k7.cell 6 rfl
          have b7 := k7.cell 7 rfl
          have b8 := k7.cell 8 rfl
          have hcwb : wb ≠ cb := fun e => by have h1 := k2.1.1; rw [e, k6] at h1; cases h1
          have hcsb : sb ≠ cb := fun e => by have h1 := k3.2; rw [e, k6] at h1; cases h1
          have hctb : X.tb ≠ cb := fun e => by rw [e, k6] at htb; cases htb
          have hsok := HSOK.out
          have hsd := k2.1.2.2.1
          rw [HX.out.2.2.2.1] at hsd
          have hdsz : A.dat.size = R.s.data.length := by rw [hsd]; exact Array.length_toList.symm
          have hps := hsok.2.2.1
          have hps2 := hsok.2.2.2
          obtain ⟨lf, hlf⟩ : ∃ lf, R.s.left = lf := ⟨_, rfl⟩
          have hlfi : (A.dat.size : Int) - R.s.pos = lf := by unfold Sc.left at hlf; omega
          have hlfb : lf ≤ 65535 := by unfold Sc.left at hlf; omega
          have HLF := Lib.hid hlf
          have HK := Lib.hid (And.intro k1 (And.intro k2 (And.intro k3 (And.intro k4 (And.intro k5 (And.intro k6 (And.intro k7 (And.intro k8 k9))))))))
          have hpb : R.s.pos ≤ 65535 := by omega
          have hdb : A.dat.size ≤ 65535 := by omega
          clear hpre hmj hrel HREL k1 k2 k3 k4 k5 k6 k7 k8 k9 hTB hHH htb hsd hsok hdsz hps hps2 hlf hsb
          go_wp2_with fail
          go_cut [] from 130 (fun wx => RowKit.Hid (∃ rx, Step (fun j => j ≤ 2000) w free wx rx ∧ Blk wx cb [.int .i64 (R.tot : Int), .int .i64 e, .int .i64 (way : Int), .string sv, .slice a4 n4 c4, .slice a5 n5 c5, .int .i64 (R.s.k : Int), .int .i64 (R.t.k : Int), .int .i64 (lf : Int)] ∧ (Blk wx (sb + 1 + 1) [.int .i64 0, .int .i64 0, .int .i64 0, .string ⟨#[]⟩, .slice none 0 0, .slice none 0 0, .int .i64 0, .int .i64 0, .int .i64 0] ∧ rx (sb + 1 + 1) = none) ∧
            RowK wx rx 1001 1 a4 n4 c4 ((sideTs R.l).map hasS) ∧ RowK wx rx 1002 1 a5 n5 c5 (I3 (cntsOf R.l ++ cntsK R.k)) ∧ rx cb = some 1000))
          case first =>
            go_region
            all_goals
              go_wp2_with fail
              go_meet
              case rel =>
                obtain ⟨k1, k2, k3, k4, k5, k6, k7, k8, k9⟩ := HK.out
                have g9 : Step (fun j => j = 1000) wr rx (((wr.setCell ⟨cb, 6, none⟩ (.int .i64 (R.s.k : Int))).setCell ⟨cb, 7, none⟩ (.int .i64 (R.t.k : Int))).setCell ⟨cb, 8, none⟩ (.int .i64 (lf : Int))).drew rx :=
                  ((((Step.refl (fun j => j = 1000) k1.bound).put (p := ⟨cb, 6, none⟩) _ (fun _ => ⟨1000, k6, rfl⟩)).put (p := ⟨cb, 7, none⟩) _ (fun _ => ⟨1000, k6, rfl⟩)).put (p := ⟨cb, 8, none⟩) _ (fun _ => ⟨1000, k6, rfl⟩)).drew
                exact Lib.hid ⟨rx, k1.trans (g9.mono (fun j hj => by omega)), (((k7.set (j := 6) _).set (j := 7) _).set (j := 8) _).drew, k5.1.free0 g9 k5.2, k8.step g9 (by omega), k9.step g9 (by omega), k6⟩
          case rest =>
          obtain ⟨r10, g10, hB10, hO10, hR4, hR5, ho10⟩ := hcut.out
          rename World => w10
          have y0 := hB10.cell 0 rfl
          have y1 := hB10.cell 1 rfl
          have y2 := hB10.cell 2 rfl
          have y3 := hB10.cell 3 rfl
          have y4 := hB10.cell 4 rfl
          have y5 := hB10.cell 5 rfl
          have y6 := hB10.cell 6 rfl
          have y7 := hB10.cell 7 rfl
          have y8 := hB10.cell 8 rfl
          have o0 := hO10.1.free 0 (by simp)
          have o1 := hO10.1.free 1 (by simp)
          have o2 := hO10.1.free 2 (by simp)
          have o3 := hO10.1.free 3 (by simp)
          have o4 := hO10.1.free 4 (by simp)
          have o5 := hO10.1.free 5 (by simp)
          have o6 := hO10.1.free 6 (by simp)
          have o7 := hO10.1.free 7 (by simp)
          have o8 := hO10.1.free 8 (by simp)
          have x0 := hO10.1.cell 0 rfl
          have x1 := hO10.1.cell 1 rfl
          have x2 := hO10.1.cell 2 rfl
          have x3 := hO10.1.cell 3 rfl
          have x4 := hO10.1.cell 4 rfl
          have x5 := hO10.1.cell 5 rfl
          have x6 := hO10.1.cell 6 rfl
          have x7 := hO10.1.cell 7 rfl
          have x8 := hO10.1.cell 8 rfl
          have HB10 := Lib.hid (g10.below (Nat.le_refl _) (fun _ _ => rfl))
          have HO10 := Lib.hid hO10
          have HR4 := Lib.hid hR4
          have HR5 := Lib.hid hR5
          have HG10 := Lib.hid g10
          clear HK hcut g10 hB10 hO10 hR4 hR5 cD cS c13 c12 c18 t6 f6 f7 f8 b6 b7 b8
          go_wp2_with fail
          clear x0 x1 x2 x3 x4 x5 x6 x7 x8 y0 y1 y2 y3 y4 y5 y6 y7 y8 o0 o1 o2 o3 o4 o5 o6 o7 o8
          have hsb := HSB.out
          rw [← HLF.out]
          have hF := (((((((((HO10.out.1.set (j := 0) (.int .i64 (R.tot : Int))).set (j := 1) (.int .i64 e)).set (j := 2) (.int .i64 (way : Int))).set (j := 3) (.string sv)).set (j := 4) (.slice a4 n4 c4)).set (j := 5) (.slice a5 n5 c5)).set (j := 6) (.int .i64 (R.s.k : Int))).set (j := 7) (.int .i64 (R.t.k : Int))).set (j := 8) (.int .i64 (R.s.left : Int)))
          have hbel : Below w.heap.size w (((((((((w10.setCell ⟨sb + 1 + 1, 0, none⟩ (.int .i64 (R.tot : Int))).setCell ⟨sb + 1 + 1, 1, none⟩ (.int .i64 e)).setCell ⟨sb + 1 + 1, 2, none⟩ (.int .i64 (way : Int))).setCell ⟨sb + 1 + 1, 3, none⟩ (.string sv)).setCell ⟨sb + 1 + 1, 4, none⟩ (.slice a4 n4 c4)).setCell ⟨sb + 1 + 1, 5, none⟩ (.slice a5 n5 c5)).setCell ⟨sb + 1 + 1, 6, none⟩ (.int .i64 (R.s.k : Int))).setCell ⟨sb + 1 + 1, 7, none⟩ (.int .i64 (R.t.k : Int))).setCell ⟨sb + 1 + 1, 8, none⟩ (.int .i64 (R.s.left : Int))) := (((((((((HB10.out.setCell (p := ⟨sb + 1 + 1, 0, none⟩) (by show w.heap.size ≤ sb + 1 + 1; omega) (.int .i64 (R.tot : Int))).setCell (p := ⟨sb + 1 + 1, 1, none⟩) (by show w.heap.size ≤ sb + 1 + 1; omega) (.int .i64 e)).setCell (p := ⟨sb + 1 + 1, 2, none⟩) (by show w.heap.size ≤ sb + 1 + 1; omega) (.int .i64 (way : Int))).setCell (p := ⟨sb + 1 + 1, 3, none⟩) (by show w.heap.size ≤ sb + 1 + 1; omega) (.string sv)).setCell (p := ⟨sb + 1 + 1, 4, none⟩) (by show w.heap.size ≤ sb + 1 + 1; omega) (.slice a4 n4 c4)).setCell (p := ⟨sb + 1 + 1, 5, none⟩) (by show w.heap.size ≤ sb + 1 + 1; omega) (.slice a5 n5 c5)).setCell (p := ⟨sb + 1 + 1, 6, none⟩) (by show w.heap.size ≤ sb + 1 + 1; omega) (.int .i64 (R.s.k : Int))).setCell (p := ⟨sb + 1 + 1, 7, none⟩) (by show w.heap.size ≤ sb + 1 + 1; omega) (.int .i64 (R.t.k : Int))).setCell (p := ⟨sb + 1 + 1, 8, none⟩) (by show w.heap.size ≤ sb + 1 + 1; omega) (.int .i64 (R.s.left : Int)))
          have hkeep : ∀ (a : Option Addr) n c xs k, RowK w10 r10 k 1 a n c xs → Rd (((((((((w10.setCell ⟨sb + 1 + 1, 0, none⟩ (.int .i64 (R.tot : Int))).setCell ⟨sb + 1 + 1, 1, none⟩ (.int .i64 e)).setCell ⟨sb + 1 + 1, 2, none⟩ (.int .i64 (way : Int))).setCell ⟨sb + 1 + 1, 3, none⟩ (.string sv)).setCell ⟨sb + 1 + 1, 4, none⟩ (.slice a4 n4 c4)).setCell ⟨sb + 1 + 1, 5, none⟩ (.slice a5 n5 c5)).setCell ⟨sb + 1 + 1, 6, none⟩ (.int .i64 (R.s.k : Int))).setCell ⟨sb + 1 + 1, 7, none⟩ (.int .i64 (R.t.k : Int))).setCell ⟨sb + 1 + 1, 8, none⟩ (.int .i64 (R.s.left : Int))) 1 a n c xs := by
            intro a n c xs k h0
            have h := h0.1.rd
            have hn : blockOf a ≠ some (sb + 1 + 1) := fun e => by have h1 := h0.2 _ e; rw [HO10.out.2] at h1; cases h1
            exact (((((((((h.kept (grownBy_setAt _ ⟨sb + 1 + 1, 0, none⟩ (.int .i64 (R.tot : Int))) (.inl hn)).kept (grownBy_setAt _ ⟨sb + 1 + 1, 1, none⟩ (.int .i64 e)) (.inl hn)).kept (grownBy_setAt _ ⟨sb + 1 + 1, 2, none⟩ (.int .i64 (way : Int))) (.inl hn)).kept (grownBy_setAt _ ⟨sb + 1 + 1, 3, none⟩ (.string sv)) (.inl hn)).kept (grownBy_setAt _ ⟨sb + 1 + 1, 4, none⟩ (.slice a4 n4 c4)) (.inl hn)).kept (grownBy_setAt _ ⟨sb + 1 + 1, 5, none⟩ (.slice a5 n5 c5)) (.inl hn)).kept (grownBy_setAt _ ⟨sb + 1 + 1, 6, none⟩ (.int .i64 (R.s.k : Int))) (.inl hn)).kept (grownBy_setAt _ ⟨sb + 1 + 1, 7, none⟩ (.int .i64 (R.t.k : Int))) (.inl hn)).kept (grownBy_setAt _ ⟨sb + 1 + 1, 8, none⟩ (.int .i64 (R.s.left : Int))) (.inl hn))
          have hra := hkeep _ _ _ _ _ HR4.out
          have hrb := hkeep _ _ _ _ _ HR5.out
          clear hkeep
          generalize (((((((((w10.setCell ⟨sb + 1 + 1, 0, none⟩ (.int .i64 (R.tot : Int))).setCell ⟨sb + 1 + 1, 1, none⟩ (.int .i64 e)).setCell ⟨sb + 1 + 1, 2, none⟩ (.int .i64 (way : Int))).setCell ⟨sb + 1 + 1, 3, none⟩ (.string sv)).setCell ⟨sb + 1 + 1, 4, none⟩ (.slice a4 n4 c4)).setCell ⟨sb + 1 + 1, 5, none⟩ (.slice a5 n5 c5)).setCell ⟨sb + 1 + 1, 6, none⟩ (.int .i64 (R.s.k : Int))).setCell ⟨sb + 1 + 1, 7, none⟩ (.int .i64 (R.t.k : Int))).setCell ⟨sb + 1 + 1, 8, none⟩ (.int .i64 (R.s.left : Int))) = w9 at hF hbel hra hrb ⊢
          have d0 := hF.cell 0 rfl
          have d1 := hF.cell 1 rfl
          have d2 := hF.cell 2 rfl
          have d3 := hF.cell 3 rfl
          have d4 := hF.cell 4 rfl
          have d5 := hF.cell 5 rfl
          have d6 := hF.cell 6 rfl
          have d7 := hF.cell 7 rfl
          have d8 := hF.cell 8 rfl
          have hfr : ∀ (a : Option Addr) n c xs k, RowK w10 r10 k 1 a n c xs → ∀ x, blockOf a = some x → w.heap.size ≤ x := by
            intro a n c xs k h0 x hx
            have h1 := h0.2 x hx
            by_cases hlt : x < w.heap.size
            · rw [HG10.out.old x hlt] at h1
              cases h1
            · omega
          refine bodyPost_ret (v := .agg #[.int .i64 (R.tot : Int), .int .i64 e, .int .i64 (way : Int), .string sv, .slice a4 n4 c4, .slice a5 n5 c5, .int .i64 (R.s.k : Int), .int .i64 (R.t.k : Int), .int .i64 (R.s.left : Int)]) (by simp [results, Tryd.f16, go_sem, d0, d1, d2, d3, d4, d5, d6, d7, d8]) rfl ?_
          exact ⟨a4, n4, c4, a5, n5, c5, by rw [HSV.out], hbel, hra, hrb, hfr _ _ _ _ _ HR4.out, hfr _ _ _ _ _ HR5.out⟩
end Go.Proofs.YtigfgdefgnahpaaDoor
