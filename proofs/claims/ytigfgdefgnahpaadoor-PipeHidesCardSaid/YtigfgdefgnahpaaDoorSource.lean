/-
  Pipes (the wrappers as they come in), and the walk of the gear's source (the code's). Not a statement of the seat.
-/
import Derived.Test.YtigfgdefgnahpaaDoorWrap
namespace Go.Proofs.YtigfgdefgnahpaaDoor
open Go.RowKit

theorem sz_alloc (w : World) (o : Obj) : (w.alloc o).heap.size = w.heap.size + 1 := by simp
theorem sz_put (w : World) (a : Addr) (u : Value) : (w.setCell a u).heap.size = w.heap.size := by simp [World.setCell]
/-- a wrapper as it comes in -/
structure Pp where
  op : Int
  n : Int
  sa : Option Addr
  sn : Nat
  sc : Nat
  zs : List Int
  room : Int
  over : Bool
  rd : Bool
  bk : Int
def Pp.cells (p : Pp) : List Value := [.int .i64 p.op, .int .i64 p.n, .slice p.sa p.sn p.sc, .int .i64 p.room, .bool p.over, .bool p.rd, .int .i64 p.bk]
def Pp.fresh (p : Pp) : Wr := freshW p.op p.n p.zs p.room p.over
def rowC (ps : List Pp) : List Value := ps.flatMap Pp.cells
theorem rowC_length (ps : List Pp) : (rowC ps).length = ps.length * 7 := by
  induction ps with
  | nil => rfl
  | cons p r ih => simp only [rowC, List.flatMap_cons, List.length_append] at ih ⊢; rw [ih]; simp [Pp.cells]; omega
theorem rowC_at : ∀ (ps : List Pp) (k i : Nat) (_ : i < 7) (hk : k < ps.length), (rowC ps)[k * 7 + i]? = (ps[k]).cells[i]?
  | p :: r, 0, i, hi, _ => by
    simp only [rowC, List.flatMap_cons, Nat.zero_mul, Nat.zero_add, List.getElem_cons_zero]
    rw [List.getElem?_append_left (by simp [Pp.cells]; omega)]
  | p :: r, k + 1, i, hi, hk => by
    have hl : (Pp.cells p).length = 7 := by simp [Pp.cells]
    simp only [rowC, List.flatMap_cons, List.getElem_cons_succ]
    rw [List.getElem?_append_right (by rw [hl]; omega), hl, show (k + 1) * 7 + i - 7 = k * 7 + i by omega]
    exact rowC_at r k i hi (by simpa using hk)

/-- a slice of wrappers; nobody owns its memory -/
def Pipes (w : World) (r : Own) (a : Option Addr) (n cap : Nat) (ps : List Pp) : Prop :=
  RdK w r none 7 a n cap (rowC ps) ∧ ∀ p ∈ ps, RdK w r none 1 p.sa p.sn p.sc (I3 p.zs)
theorem Pipes.len {w : World} {r : Own} {a : Option Addr} {n cap : Nat} {ps : List Pp} (h : Pipes w r a n cap ps) : ps.length = n := by
  have := h.1.1.len
  rw [rowC_length] at this; omega
theorem Pipes.step {K : Nat → Prop} {w w' : World} {r r' : Own} {a : Option Addr} {n cap : Nat} {ps : List Pp} (h : Pipes w r a n cap ps) (g : Step K w r w' r') : Pipes w' r' a n cap ps :=
  ⟨h.1.step g (fun _ h => by cases h), fun p hp => (h.2 p hp).step g (fun _ h => by cases h)⟩
theorem Pipes.at {w : World} {r : Own} {a : Option Addr} {n cap : Nat} {ps : List Pp} (h : Pipes w r a n cap ps) {k : Nat} (hk : k < n) :
    ∃ b off p, a = some ⟨b, off, none⟩ ∧ b < w.heap.size ∧ ps[k]? = some p ∧ p ∈ ps ∧ ∀ i, i < 7 → w.cell? ⟨b, off + k * 7 + i, none⟩ = p.cells[i]? := by
  have hl := h.len
  obtain ⟨b, off, ha, hb, hc⟩ := h.1.1.at hk
  have hk' : k < ps.length := by omega
  exact ⟨b, off, ps[k], ha, hb, by simp [hk'], List.getElem_mem _, fun i hi => by rw [hc i hi, rowC_at ps k i hi hk']⟩

/-- the sides and the counts of a chain, the innermost first -/
def sidesOf (sh : Sh) : List Wr → List Value
  | [] => []
  | x :: l => if x.op = 4 then sidesOf sh l ++ [ptr (sh.bl (l.length + 1))] else sidesOf sh l
def countsOf (sh : Sh) : List Wr → List Value
  | [] => []
  | x :: l => if x.op = 2 then countsOf sh l ++ [ptr (sh.bl (l.length + 1))] else countsOf sh l
def limOf (sh : Sh) : List Wr → Value
  | [] => .pointer none
  | x :: l => if x.op = 3 then ptr (sh.bl (l.length + 1)) else .pointer none
theorem sidesOf_upd {sh : Sh} {k b : Nat} : ∀ {l : List Wr}, l.length < k → sidesOf (sh.upd k b) l = sidesOf sh l
  | [], _ => rfl
  | x :: l, h => by
    have h' : l.length + 1 < k := by simpa using h
    simp only [sidesOf]
    rw [sidesOf_upd (l := l) (k := k) (b := b) (show l.length < k by omega)]
    simp only [Sh.upd, if_neg (show ¬ l.length + 1 = k by omega)]
theorem countsOf_upd {sh : Sh} {k b : Nat} : ∀ {l : List Wr}, l.length < k → countsOf (sh.upd k b) l = countsOf sh l
  | [], _ => rfl
  | x :: l, h => by
    have h' : l.length + 1 < k := by simpa using h
    simp only [countsOf]
    rw [countsOf_upd (l := l) (k := k) (b := b) (show l.length < k by omega)]
    simp only [Sh.upd, if_neg (show ¬ l.length + 1 = k by omega)]
theorem sidesOf_len (sh : Sh) : ∀ l : List Wr, (sidesOf sh l).length ≤ l.length
  | [] => Nat.le_refl _
  | x :: l => by
    have := sidesOf_len sh l
    simp only [sidesOf]
    split <;> simp <;> omega
theorem countsOf_len (sh : Sh) : ∀ l : List Wr, (countsOf sh l).length ≤ l.length
  | [] => Nat.le_refl _
  | x :: l => by
    have := countsOf_len sh l
    simp only [countsOf]
    split <;> simp <;> omega

/-- the chain of the first i wrappers, the outermost first -/
def upto (ps : List Pp) (i : Nat) : List Wr := ((ps.take i).map Pp.fresh).reverse
theorem upto_len {ps : List Pp} {i : Nat} (h : i ≤ ps.length) : (upto ps i).length = i := by
  simp only [upto, List.length_reverse, List.length_map, List.length_take]; omega
theorem upto_succ {ps : List Pp} {i : Nat} {p : Pp} (h : ps[i]? = some p) : upto ps (i + 1) = p.fresh :: upto ps i := by
  have hl := (List.getElem?_eq_some_iff.1 h).1
  have hv := (List.getElem?_eq_some_iff.1 h).2
  unfold upto
  rw [List.take_add_one, h]
  simp

/-- what building a gear may turn -/
def KG (k : Nat) : Prop := k ≤ 34 ∧ k ≠ 31
def srcOf (d : Bytes) (zs : List Int) (early broken : Bool) : Sc := ⟨d, zs, early, broken, 0, 0⟩
def SourceW (gb : Nat) (to : Value) (wrt : Bool) (l : List Wr) (s : Sc) (v : Value) (w : World) (r : Own) (w' : World) : Prop :=
  ∃ r' sh, sh.wr = wrt ∧ Step KG w r w' r' ∧ Chain w' r' sh v l s ∧ GearAt w' r' gb (ptr (sh.bl 0)) to (limOf sh l) (sidesOf sh l) (countsOf sh l)
def SourceP (gb : Nat) (to : Value) (wrt : Bool) (l : List Wr) (s : Sc) (w : World) (r : Own) (e : Ending) (w' : World) : Prop :=
  ∃ v, e = .returned v ∧ SourceW gb to wrt l s v w r w'

def SrcRel (gb : Nat) (to : Value) (wrt : Bool) (ps : List Pp) (s : Sc) (w : World) (r : Own) (v : Value) (k : Nat) (wx : World) : Prop :=
  ∃ rx sh, sh.wr = wrt ∧ Step KG w r wx rx ∧ Chain wx rx sh v (upto ps k) s ∧ GearAt wx rx gb (ptr (sh.bl 0)) to (limOf sh (upto ps k)) (sidesOf sh (upto ps k)) (countsOf sh (upto ps k))
theorem SrcRel.next {gb : Nat} {to : Value} {wrt : Bool} {ps : List Pp} {s : Sc} {w w1 w' : World} {r rx : Own} {sh : Sh} {v' : Value} {k : Nat} {p : Pp} (hk : k < ps.length) (hp : ps[k]? = some p) (hw : sh.wr = wrt) (hk15 : k ≤ 20)
    (g : Step KG w r w1 rx) (h : WrapW gb (ptr (sh.bl 0)) to (sidesOf sh (upto ps k)) (countsOf sh (upto ps k)) sh (upto ps k) s p.fresh v' w1 rx w') : SrcRel gb to wrt ps s w r v' (k + 1) w' := by
  obtain ⟨r', b, g1, hC, hG⟩ := h
  have hl : (upto ps k).length = k := upto_len (by omega)
  rw [hl] at g1 hC
  refine ⟨r', sh.upd (k + 1) b, hw, g.trans (g1.mono (fun j hj => by unfold KG; omega)), by rw [upto_succ hp]; exact hC, ?_⟩
  rw [upto_succ hp]
  have e0 : (sh.upd (k + 1) b).bl 0 = sh.bl 0 := by simp [Sh.upd]
  have e1 : (sh.upd (k + 1) b).bl (k + 1) = b := by simp [Sh.upd]
  simp only [limOf, sidesOf, countsOf, hl, e0, e1]
  rw [sidesOf_upd (by omega), countsOf_upd (by omega)]
  exact hG

set_option maxRecDepth 100000 in
set_option maxHeartbeats 1000000 in
theorem sourceN {gb : Nat} {fr to : Value} {dat : ByteArray} {sa : Option Addr} {sn sc : Nat} {zs : List Int} {early broken wrt : Bool} {pa : Option Addr} {pn pc : Nat} {ps : List Pp} {w : World} {r : Own}
    (hG : GearAt w r gb fr to (.pointer none) [] []) (hZ : RdK w r none 1 sa sn sc (I3 zs)) (hP : Pipes w r pa pn pc ps) (hrd : ∀ p ∈ ps, p.rd = false) (hn : pn ≤ 15) (hd : dat.size ≤ 65535) (hbnd : Bnd w r) :
    Calls Tryd.prog 30 #[.pointer (some ⟨gb, 0, none⟩), .agg #[.string dat, .slice sa sn sc, .bool early, .bool broken, .bool wrt, .slice pa pn pc]] w
      (SourceP gb to wrt (upto ps pn) (srcOf dat.data.toList zs early broken) w r) := by
  obtain ⟨wq, hwq⟩ : ∃ wq, w.alloc (.cells #[.string dat, .slice sa sn sc, .bool early, .bool broken, .bool wrt, .slice pa pn pc] 25) = wq := ⟨_, rfl⟩
  have hcv := fun (w : World) => run_bytes_of_string (P := Tryd.prog) w 9 78 5 dat Tryd.underlying9 under78 (by kernel_rfl)
  have hq0 : Step (fun _ => False) w r wq r := by rw [← hwq]; exact (Step.refl _ hbnd).alloc _
  have hqb : Blk wq w.heap.size [.string dat, .slice sa sn sc, .bool early, .bool broken, .bool wrt, .slice pa pn pc] := by rw [← hwq]; exact Blk.new _ _ _
  have d0 := hqb.cell 0 rfl
  have d1 := hqb.cell 1 rfl
  have d2 := hqb.cell 2 rfl
  have d3 := hqb.cell 3 rfl
  have d4 := hqb.cell 4 rfl
  have d5 := hqb.cell 5 rfl
  have hG0 := hG.step hq0 id id id
  obtain ⟨a1, n1, c1, a2, n2, c2, hgb, hB, hR1, hR2⟩ := hG0
  have g0 := hB.cell 0 rfl
  have f0 := hB.free 0 (by simp)
  go_enter Tryd.func30, Tryd.ntmps30
  have hgl := hB.lt
  go_upto_region 2 with (fail)
  -- the world behind the laying of the source
  have HQ0 := Lib.hid hq0
  have hsz1 : (wq.setCell ⟨gb, 0, none⟩ (.pointer (some ⟨wq.heap.size + 1, 0, none⟩))).heap.size = wq.heap.size := by simp [World.setCell]
  obtain ⟨cap, hcap⟩ : ∃ cap, grownCap wq dat.size 0 5 = cap := ⟨_, rfl⟩
  have hcap1 : dat.size ≤ cap := by rw [← hcap]; exact grownCap_ge _ _ _ _
  have hcap2 : cap ≤ maxLen := by rw [← hcap]; exact grownCap_le_maxLen _ _ _ _ (by unfold maxLen; omega)
  rw [hcap]
  have k1 : Step (fun j => j = 32 ∨ j = 30 ∨ j = 0) wq r (wq.setCell ⟨gb, 0, none⟩ (.pointer (some ⟨wq.heap.size + 1, 0, none⟩))) r := (Step.refl _ hq0.bound).put _ (fun _ => ⟨32, hgb, .inl rfl⟩)
  have k2 := (k1.alloc (.cells (bytesRow dat cap) 5 ((bytesRow dat cap).size, (bytesRow dat cap).size + 1))).give (b := wq.heap.size) (k := 30) (Nat.le_refl _) (by rw [sz_alloc, sz_put]; omega) (.inr (.inl rfl))
  have k3 := (k2.alloc (.cells #[.string dat, .slice sa sn sc, .bool early, .bool broken, .bool wrt, .slice pa pn pc, .slice (some ⟨wq.heap.size, 0, none⟩) dat.size cap, .int .i64 0] 102)).give (b := wq.heap.size + 1) (k := 0) (by omega) (by rw [sz_alloc, sz_alloc, sz_put]; omega) (.inr (.inr rfl))
  have k4 := k3.drew
  have hgl2 : gb ≠ wq.heap.size := by omega
  have hgl3 : gb ≠ wq.heap.size + 1 := by omega
  have hB4 := (((hB.set (j := 0) (.pointer (some ⟨wq.heap.size + 1, 0, none⟩))).alloc (.cells (bytesRow dat cap) 5 ((bytesRow dat cap).size, (bytesRow dat cap).size + 1))).alloc (.cells #[.string dat, .slice sa sn sc, .bool early, .bool broken, .bool wrt, .slice pa pn pc, .slice (some ⟨wq.heap.size, 0, none⟩) dat.size cap, .int .i64 0] 102)).drew
  have hnb := Blk.new ((wq.setCell ⟨gb, 0, none⟩ (.pointer (some ⟨wq.heap.size + 1, 0, none⟩))).alloc (.cells (bytesRow dat cap) 5 ((bytesRow dat cap).size, (bytesRow dat cap).size + 1))) #[.string dat, .slice sa sn sc, .bool early, .bool broken, .bool wrt, .slice pa pn pc, .slice (some ⟨wq.heap.size, 0, none⟩) dat.size cap, .int .i64 0] 102
  have hsz2 : ((wq.setCell ⟨gb, 0, none⟩ (.pointer (some ⟨wq.heap.size + 1, 0, none⟩))).alloc (.cells (bytesRow dat cap) 5 ((bytesRow dat cap).size, (bytesRow dat cap).size + 1))).heap.size = wq.heap.size + 1 := by simp [World.setCell]
  rw [hsz2] at hnb
  have hnb4 := hnb.drew
  have hrow4 : ∀ j, j < dat.data.toList.length → (((wq.setCell ⟨gb, 0, none⟩ (.pointer (some ⟨wq.heap.size + 1, 0, none⟩))).alloc (.cells (bytesRow dat cap) 5 ((bytesRow dat cap).size, (bytesRow dat cap).size + 1))).alloc (.cells #[.string dat, .slice sa sn sc, .bool early, .bool broken, .bool wrt, .slice pa pn pc, .slice (some ⟨wq.heap.size, 0, none⟩) dat.size cap, .int .i64 0] 102)).drew.cell? ⟨wq.heap.size, 0 + j, none⟩ = (B8 dat.data.toList)[j]? := by
    intro j hj
    have hj2 : j < dat.data.size := by simpa using hj
    have e1 := World.cell?_alloc_mark (wq.setCell ⟨gb, 0, none⟩ (.pointer (some ⟨wq.heap.size + 1, 0, none⟩))) (bytesRow dat cap) 5 ((bytesRow dat cap).size, (bytesRow dat cap).size + 1) j
    rw [hsz1, bytesRow_at dat cap j hj2] at e1
    have e2 := cellNew (.cells #[.string dat, .slice sa sn sc, .bool early, .bool broken, .bool wrt, .slice pa pn pc, .slice (some ⟨wq.heap.size, 0, none⟩) dat.size cap, .int .i64 0] 102) e1
    rw [Nat.zero_add]
    refine Eq.trans (b := some (Value.int .u8 (dat.data[j].toNat : Int))) e2 ?_
    have e3 : dat.data.toList[j]? = some dat.data[j] := by simp
    rw [B8, List.getElem?_map, e3]
    rfl
  have hSRC : SrcAt _ _ (wq.heap.size + 1) wrt (srcOf dat.data.toList zs early broken) :=
    ⟨_, sa, sn, sc, _, some ⟨wq.heap.size, 0, none⟩, dat.size, cap, Own.give_same _ _ _, hnb4, (hZ.step hq0 (fun _ h => by cases h)).step k4 (fun _ h => by cases h),
      ⟨⟨by rw [B8_length]; show (dat.data.toList.drop 0).length = dat.size * 1; rw [List.drop_zero, Nat.mul_one]; exact Array.length_toList, hcap1, hcap2, .inr ⟨_, _, rfl, (by show wq.heap.size < ((((wq.setCell _ _).alloc _).alloc _).heap).size; rw [sz_alloc, sz_alloc, sz_put]; omega), fun j hj => hrow4 j (by rw [B8_length] at hj; exact hj)⟩⟩, .inr (fun x hx => by cases hx; rw [Own.give_other (r.give wq.heap.size 30) (show wq.heap.size ≠ wq.heap.size + 1 by omega)]; exact Own.give_same _ _ _)⟩⟩
  have hGE : ∀ x, x = Value.pointer (some ⟨wq.heap.size + 1, 0, none⟩) → GearAt _ _ gb x to (.pointer none) [] [] := fun x hx => by
    subst hx
    exact ⟨a1, n1, c1, a2, n2, c2, by rw [k4.old gb hgl]; exact hgb, hB4, hR1.step k4 (by omega), hR2.step k4 (by omega)⟩
  have hGE' := hGE _ rfl
  have hQB4 := ((((hqb.other (.pointer (some ⟨wq.heap.size + 1, 0, none⟩)) (p := ⟨gb, 0, none⟩) (by show gb ≠ _; have := hG; obtain ⟨_, _, _, _, _, _, _, h9, _⟩ := this; have := h9.lt; omega)).alloc (.cells (bytesRow dat cap) 5 ((bytesRow dat cap).size, (bytesRow dat cap).size + 1))).alloc (.cells #[.string dat, .slice sa sn sc, .bool early, .bool broken, .bool wrt, .slice pa pn pc, .slice (some ⟨wq.heap.size, 0, none⟩) dat.size cap, .int .i64 0] 102)).drew)
  have hK := (hq0.mono (K' := fun j => j = 32 ∨ j = 30 ∨ j = 0) (fun _ h => h.elim)).trans k4
  have hP4 := hP.step hK
  clear hsz1 hsz2 hnb hrow4 hB4 hnb4 k1 k2 k3 k4 hGE hcap1 hcap2 hR1 hR2 hB hqb d0 d1 d2 d3 d4 d5 hcv hG hZ hwq g0 f0 hcap hq0 HQ0
  generalize hw5 : ((((wq.setCell ⟨gb, 0, none⟩ (.pointer (some ⟨wq.heap.size + 1, 0, none⟩))).alloc (.cells (bytesRow dat cap) 5 ((bytesRow dat cap).size, (bytesRow dat cap).size + 1))).alloc (.cells #[.string dat, .slice sa sn sc, .bool early, .bool broken, .bool wrt, .slice pa pn pc, .slice (some ⟨wq.heap.size, 0, none⟩) dat.size cap, .int .i64 0] 102)).drew) = w5 at *
  generalize hr5 : (r.give wq.heap.size 30).give (wq.heap.size + 1) 0 = r5 at *
  generalize wq.heap.size + 1 = fs at *
  clear hw5 hr5
  have hlen := hP4.len
  have hpc := hP4.1.1.le
  have hpm := hP4.1.1.max
  unfold maxLen at hpm
  have hSR : ∀ v, v = (if wrt then .iface 104 (.agg #[.pointer (some ⟨fs, 0, none⟩)]) else .iface 54 (.pointer (some ⟨fs, 0, none⟩))) → SrcRel gb to wrt ps (srcOf dat.data.toList zs early broken) w r v 0 w5 := fun v hv =>
    ⟨r5, ⟨wrt, fun _ => fs⟩, rfl, hK.mono (fun k hk => by unfold KG; omega), ⟨fs, hv, hSRC, rfl⟩, hGE'⟩
  have d5 := hQB4.cell 5 rfl
  have d4 := hQB4.cell 4 rfl
  obtain ⟨_, _, _, _, _, _, _, hGB5, _⟩ := hGE'
  have g0 := hGB5.cell 0 rfl
  have HSR := Lib.hid hSR
  have HP := Lib.hid hP4
  have HK := Lib.hid hK
  have HL := Lib.hid hlen
  have HRD := Lib.hid hrd
  have HR5 := Lib.hid hK.bound
  have HBND := Lib.hid hbnd
  have HP0 := Lib.hid hP
  clear hP
  clear hSR hSRC hGB5 hK hP4 hlen hQB4 hrd hbnd
  cases wrt
  · go_wp2_with fail
    clear d4 d5 g0
    go_loopw [5, 33] (fun v t wr => ∃ k, k ≤ pn ∧ t = .int .i64 (k : Int) ∧ SrcRel gb to false ps (srcOf dat.data.toList zs early broken) w r v k wr) (fun _ t _ => pn - (intOf t).toNat)
    case atStart => exact ⟨0, Nat.zero_le _, rfl, HSR.out _ rfl⟩
    case round =>
      obtain ⟨k, hk, rfl, hrel⟩ := hrel
      have HREL := Lib.hid hrel
      clear hrel
      by_cases hlt : k < pn
      · obtain ⟨rx, sh, hsw, gx, hCx, hGx⟩ := HREL.out
        have hPx := HP0.out.step gx
        obtain ⟨b, off, p, hpa, hbl, hpk, hmem, hcell⟩ := hPx.at hlt
        have hrdp := HRD.out p hmem
        have hzp := hPx.2 p hmem
        obtain ⟨op, pn1, psa, psn, psc, pzs, proom, pover, prd, pbk⟩ := p
        dsimp only at hrdp
        subst hrdp
        subst hpa
        have q0 := hcell 0 (by omega)
        have q1 := hcell 1 (by omega)
        have q2 := hcell 2 (by omega)
        have q3 := hcell 3 (by omega)
        have q4 := hcell 4 (by omega)
        have q5 := hcell 5 (by omega)
        have q6 := hcell 6 (by omega)
        simp only [Pp.cells, List.getElem?_cons_zero, List.getElem?_cons_succ, Nat.add_zero] at q0 q1 q2 q3 q4 q5 q6
        have hki : (k : Int) < pn := by omega
        have HGX := Lib.hid gx
        have HCX := Lib.hid hCx
        have HGG := Lib.hid hGx
        have HZP := Lib.hid hzp
        have HPK := Lib.hid hpk
        have hk15 : k ≤ 20 := by omega
        clear gx hCx hGx hPx hcell hzp hpk hmem
        go_wp2_with fail
        have hal := HGX.out.alloc (.cells #[.int .i64 op, .int .i64 pn1, .slice psa psn psc, .int .i64 proom, .bool pover, .bool false, .int .i64 pbk] 43)
        have ha0 := (Step.refl (fun _ => False) HGX.out.bound).alloc (.cells #[.int .i64 op, .int .i64 pn1, .slice psa psn psc, .int .i64 proom, .bool pover, .bool false, .int .i64 pbk] 43)
        have hul : (upto ps k).length = k := upto_len (by rw [HL.out]; omega)
        refine (wrapN (zs := pzs) (HGG.out.step ha0 id id id) (HCX.out.step ha0 (fun _ _ h => h) id) (HZP.out.step ha0 (fun _ h => by cases h)) ha0.bound (by omega) (by have := countsOf_len sh (upto ps k); omega) (by have := sidesOf_len sh (upto ps k); omega)).mono ?_
        rintro e w2 ⟨v', rfl, hW⟩
        have HW := Lib.hid hW
        have HAL := Lib.hid hal
        clear hW hal ha0
        go_wp2_with fail
        go_roundw
        case rel => exact ⟨k + 1, by omega, by go_num, SrcRel.next (by rw [HL.out]; exact hlt) HPK.out hsw hk15 HAL.out HW.out⟩
        case measure => simp [intOf]; omega
      · obtain rfl : k = pn := by omega
        go_wp2
        refine bodyPost_ret (v := u5) (by simp [results, Tryd.f30, go_sem]) rfl ?_
        obtain ⟨rx, sh, hsw, gx, hCx, hGx⟩ := HREL.out
        exact ⟨u5, rfl, rx, sh, hsw, gx, hCx, hGx⟩
  · go_wp2_with fail
    clear d4 d5 g0
    go_loopw [5, 33] (fun v t wr => ∃ k, k ≤ pn ∧ t = .int .i64 (k : Int) ∧ SrcRel gb to true ps (srcOf dat.data.toList zs early broken) w r v k wr) (fun _ t _ => pn - (intOf t).toNat)
    case atStart => exact ⟨0, Nat.zero_le _, rfl, HSR.out _ rfl⟩
    case round =>
      obtain ⟨k, hk, rfl, hrel⟩ := hrel
      have HREL := Lib.hid hrel
      clear hrel
      by_cases hlt : k < pn
      · obtain ⟨rx, sh, hsw, gx, hCx, hGx⟩ := HREL.out
        have hPx := HP0.out.step gx
        obtain ⟨b, off, p, hpa, hbl, hpk, hmem, hcell⟩ := hPx.at hlt
        have hrdp := HRD.out p hmem
        have hzp := hPx.2 p hmem
        obtain ⟨op, pn1, psa, psn, psc, pzs, proom, pover, prd, pbk⟩ := p
        dsimp only at hrdp
        subst hrdp
        subst hpa
        have q0 := hcell 0 (by omega)
        have q1 := hcell 1 (by omega)
        have q2 := hcell 2 (by omega)
        have q3 := hcell 3 (by omega)
        have q4 := hcell 4 (by omega)
        have q5 := hcell 5 (by omega)
        have q6 := hcell 6 (by omega)
        simp only [Pp.cells, List.getElem?_cons_zero, List.getElem?_cons_succ, Nat.add_zero] at q0 q1 q2 q3 q4 q5 q6
        have hki : (k : Int) < pn := by omega
        have HGX := Lib.hid gx
        have HCX := Lib.hid hCx
        have HGG := Lib.hid hGx
        have HZP := Lib.hid hzp
        have HPK := Lib.hid hpk
        have hk15 : k ≤ 20 := by omega
        clear gx hCx hGx hPx hcell hzp hpk hmem
        go_wp2_with fail
        have hal := HGX.out.alloc (.cells #[.int .i64 op, .int .i64 pn1, .slice psa psn psc, .int .i64 proom, .bool pover, .bool false, .int .i64 pbk] 43)
        have ha0 := (Step.refl (fun _ => False) HGX.out.bound).alloc (.cells #[.int .i64 op, .int .i64 pn1, .slice psa psn psc, .int .i64 proom, .bool pover, .bool false, .int .i64 pbk] 43)
        have hul : (upto ps k).length = k := upto_len (by rw [HL.out]; omega)
        refine (wrapN (zs := pzs) (HGG.out.step ha0 id id id) (HCX.out.step ha0 (fun _ _ h => h) id) (HZP.out.step ha0 (fun _ h => by cases h)) ha0.bound (by omega) (by have := countsOf_len sh (upto ps k); omega) (by have := sidesOf_len sh (upto ps k); omega)).mono ?_
        rintro e w2 ⟨v', rfl, hW⟩
        have HW := Lib.hid hW
        have HAL := Lib.hid hal
        clear hW hal ha0
        go_wp2_with fail
        go_roundw
        case rel => exact ⟨k + 1, by omega, by go_num, SrcRel.next (by rw [HL.out]; exact hlt) HPK.out hsw hk15 HAL.out HW.out⟩
        case measure => simp [intOf]; omega
      · obtain rfl : k = pn := by omega
        go_wp2
        refine bodyPost_ret (v := u5) (by simp [results, Tryd.f30, go_sem]) rfl ?_
        obtain ⟨rx, sh, hsw, gx, hCx, hGx⟩ := HREL.out
        exact ⟨u5, rfl, rx, sh, hsw, gx, hCx, hGx⟩
end Go.Proofs.YtigfgdefgnahpaaDoor
