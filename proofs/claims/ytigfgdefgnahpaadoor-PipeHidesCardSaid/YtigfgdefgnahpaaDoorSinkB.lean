/-
  The walk of the gear's sink (the code's). Not a statement of the seat.
-/
import Derived.Test.YtigfgdefgnahpaaDoorSource
namespace Go.Proofs.YtigfgdefgnahpaaDoor
open Go.RowKit

def Sk.upd (sk : Sk) (k b : Nat) : Sk := ⟨sk.rd, fun i => if i = k then b else sk.bl i⟩
theorem SinkAt.congr {w : World} {r : Own} {sk sk' : Sk} {bk : Int} (hw : sk'.rd = sk.rd) : ∀ {l : List KW} {v : Value} {t : Tank}, SinkAt w r sk bk v l t → (∀ i, i ≤ l.length → sk'.bl i = sk.bl i) → SinkAt w r sk' bk v l t
  | [], v, t, h, hb => by
    obtain ⟨fs, h1, h2, h3⟩ := h
    exact ⟨fs, by rw [hw]; exact h1, by rw [hw]; exact h2, by rw [hb 0 (Nat.le_refl _)]; exact h3⟩
  | x :: l, v, t, h, hb => by
    obtain ⟨below, h1, h2⟩ := h
    exact ⟨below, h1.congr hw (fun i hi => hb i (by simp; omega)), by rw [hw, hb _ (by simp)]; exact h2⟩
def skCounts (sk : Sk) : List KW → List Value
  | [] => []
  | x :: l => if x.1 then skCounts sk l ++ [ptr (sk.bl (l.length + 1))] else skCounts sk l
theorem skCounts_upd {sk : Sk} {k b : Nat} : ∀ {l : List KW}, l.length < k → skCounts (sk.upd k b) l = skCounts sk l
  | [], _ => rfl
  | x :: l, h => by
    have h' : l.length + 1 < k := by simpa using h
    simp only [skCounts]
    rw [skCounts_upd (l := l) (k := k) (b := b) (show l.length < k by omega)]
    simp only [Sk.upd, if_neg (show ¬ l.length + 1 = k by omega)]
theorem skCounts_len (sk : Sk) : ∀ l : List KW, (skCounts sk l).length ≤ l.length
  | [] => Nat.le_refl _
  | x :: l => by
    have := skCounts_len sk l
    simp only [skCounts]
    split <;> simp <;> omega
def Pp.kw (p : Pp) : KW := (p.op == 2, 0)
def uptoK (ps : List Pp) (i : Nat) : List KW := ((ps.take i).map Pp.kw).reverse
theorem uptoK_len {ps : List Pp} {i : Nat} (h : i ≤ ps.length) : (uptoK ps i).length = i := by
  simp only [uptoK, List.length_reverse, List.length_map, List.length_take]; omega
theorem uptoK_succ {ps : List Pp} {i : Nat} {p : Pp} (h : ps[i]? = some p) : uptoK ps (i + 1) = p.kw :: uptoK ps i := by
  unfold uptoK
  rw [List.take_add_one, h]
  simp

def KS (k : Nat) : Prop := (32 ≤ k ∧ k ≤ 33) ∨ 40 ≤ k
def SnkRel (gb : Nat) (fr lim : Value) (sp cp : List Value) (rd : Bool) (bk : Int) (ps : List Pp) (t : Tank) (w : World) (r : Own) (v : Value) (k : Nat) (wx : World) : Prop :=
  ∃ rx sk, sk.rd = rd ∧ Step KS w r wx rx ∧ SinkAt wx rx sk bk v (uptoK ps k) t ∧ GearAt wx rx gb fr (ptr (sk.bl 0)) lim sp (cp ++ skCounts sk (uptoK ps k))
def SinkP (gb : Nat) (fr lim : Value) (sp cp : List Value) (rd : Bool) (bk : Int) (ps : List Pp) (n : Nat) (t : Tank) (w : World) (r : Own) (e : Ending) (w' : World) : Prop :=
  ∃ v, e = .returned v ∧ SnkRel gb fr lim sp cp rd bk ps t w r v n w'

/-- a plain wrapper more -/
theorem SnkRel.plain {gb : Nat} {fr lim : Value} {sp cp : List Value} {rd : Bool} {bk : Int} {ps : List Pp} {t : Tank} {w w1 : World} {r rx : Own} {sk : Sk} {v : Value} {k : Nat} {p : Pp} (_hk : k < ps.length) (hp : ps[k]? = some p) (hw : sk.rd = rd) (h2 : ¬ p.op = 2)
    (g : Step KS w r w1 rx) (hS : SinkAt w1 rx sk bk v (uptoK ps k) t) (hG : GearAt w1 rx gb fr (ptr (sk.bl 0)) lim sp (cp ++ skCounts sk (uptoK ps k))) : SnkRel gb fr lim sp cp rd bk ps t w r (.iface 110 (.agg #[v])) (k + 1) w1 := by
  have hkw : p.kw.1 = false := by simp [Pp.kw, h2]
  refine ⟨rx, sk, hw, g, by rw [uptoK_succ hp]; exact ⟨v, hS, by unfold SinkWrap; rw [if_neg (by rw [hkw]; simp)]⟩, ?_⟩
  rw [uptoK_succ hp]
  simp only [skCounts, hkw]
  exact hG
/-- a count more -/
theorem SnkRel.count {gb : Nat} {fr lim : Value} {sp cp : List Value} {rd : Bool} {bk : Int} {ps : List Pp} {t : Tank} {w w1 w2 w3 : World} {r rx : Own} {sk : Sk} {v v' : Value} {k : Nat} {p : Pp} (hk : k < ps.length) (hp : ps[k]? = some p) (hw : sk.rd = rd) (h2 : p.op = 2)
    (g : Step KS w r w1 rx) (hS : SinkAt w1 rx sk bk v (uptoK ps k) t) (hC : CounterW gb (41 + k) fr (ptr (sk.bl 0)) lim sp (cp ++ skCounts sk (uptoK ps k)) w1 rx w2) (hb : Below w2.heap.size w2 w3)
    (hv : v' = if fastK sk.rd (uptoK ps k) then .iface 119 (.agg #[v, ptr w1.heap.size, v]) else .iface 114 (.agg #[v, ptr w1.heap.size])) : SnkRel gb fr lim sp cp rd bk ps t w r v' (k + 1) w3 := by
  obtain ⟨r2, g2, hG, hr, hB⟩ := hC
  have hl : (uptoK ps k).length = k := uptoK_len (by omega)
  have g3 : Step (fun _ => False) w2 r2 w3 r2 := (Step.refl _ g2.bound).calm hb
  have hkw : p.kw.1 = true := by simp [Pp.kw, h2]
  have hS2 := (hS.step g2 (fun j h1 h3 h4 => by rw [hl] at h3; omega)).step g3 (fun _ _ _ h => h)
  refine ⟨r2, sk.upd (k + 1) w1.heap.size, hw, (g.trans (g2.mono (fun j hj => by unfold KS; omega))).trans (g3.mono (fun _ h => h.elim)), ?_, ?_⟩
  · rw [uptoK_succ hp]
    refine ⟨v, hS2.congr (sk := sk) (sk' := sk.upd (k + 1) w1.heap.size) rfl (fun i hi => by rw [hl] at hi; simp only [Sk.upd]; rw [if_neg (by omega)]), ?_⟩
    unfold SinkWrap
    rw [if_pos hkw, hl]
    exact ⟨w1.heap.size, hv, hr, (hB.step g3 hr id), by simp [Sk.upd]⟩
  · rw [uptoK_succ hp]
    have e0 : (sk.upd (k + 1) w1.heap.size).bl 0 = sk.bl 0 := by simp [Sk.upd]
    have e1 : (sk.upd (k + 1) w1.heap.size).bl (k + 1) = w1.heap.size := by simp [Sk.upd]
    simp only [skCounts, hkw, if_true, hl, e0, e1]
    rw [skCounts_upd (by omega), ← List.append_assoc]
    exact hG.step g3 id id id

set_option maxRecDepth 100000 in
set_option maxHeartbeats 1000000 in
theorem sinkN {gb : Nat} {fr to lim : Value} {sp cp : List Value} {sa : Option Addr} {sn sc : Nat} {zs : List Int} {room bk : Int} {over rd : Bool} {pa : Option Addr} {pn pc : Nat} {ps : List Pp} {w : World} {r : Own}
    (hG : GearAt w r gb fr to lim sp cp) (hZ : RdK w r none 1 sa sn sc (I3 zs)) (hP : Pipes w r pa pn pc ps) (hn : pn ≤ 15) (hcp : cp.length ≤ 100) (hbnd : Bnd w r) :
    Calls Tryd.prog 31 #[.pointer (some ⟨gb, 0, none⟩), .agg #[.slice sa sn sc, .int .i64 room, .bool over, .bool rd, .int .i64 bk, .slice pa pn pc]] w
      (SinkP gb fr lim sp cp rd bk ps pn (freshT zs room over) w r) := by
  obtain ⟨wq, hwq⟩ : ∃ wq, w.alloc (.cells #[.slice sa sn sc, .int .i64 room, .bool over, .bool rd, .int .i64 bk, .slice pa pn pc] 29) = wq := ⟨_, rfl⟩
  have hq0 : Step (fun _ => False) w r wq r := by rw [← hwq]; exact (Step.refl _ hbnd).alloc _
  have hqb : Blk wq w.heap.size [.slice sa sn sc, .int .i64 room, .bool over, .bool rd, .int .i64 bk, .slice pa pn pc] := by rw [← hwq]; exact Blk.new _ _ _
  have d0 := hqb.cell 0 rfl
  have d1 := hqb.cell 1 rfl
  have d2 := hqb.cell 2 rfl
  have d3 := hqb.cell 3 rfl
  have d4 := hqb.cell 4 rfl
  have d5 := hqb.cell 5 rfl
  have hG0 := hG.step hq0 id id id
  have hltw : gb < w.heap.size := by obtain ⟨_, _, _, _, _, _, _, h, _⟩ := hG; exact h.lt
  obtain ⟨a1, n1, c1, a2, n2, c2, hgb, hB, hR1, hR2⟩ := hG0
  have g1 := hB.cell 1 rfl
  have f1 := hB.free 1 (by simp)
  have hgl := hB.lt
  go_enter Tryd.func31, Tryd.ntmps31
  go_upto_region 2 with (fail)
  have k1 : Step (fun j => j = 32 ∨ j = 40) wq r (wq.setCell ⟨gb, 1, none⟩ (.pointer (some ⟨wq.heap.size, 0, none⟩))) r := (Step.refl _ hq0.bound).put _ (fun _ => ⟨32, hgb, .inl rfl⟩)
  have k2 := (k1.alloc (.cells #[.slice sa sn sc, .int .i64 room, .bool over, .bool rd, .int .i64 bk, .slice none 0 0, .int .i64 0] 106)).give (b := wq.heap.size) (k := 40) (Nat.le_refl _) (by rw [sz_alloc, sz_put]; omega) (.inr rfl)
  have hB4 := (hB.set (j := 1) (.pointer (some ⟨wq.heap.size, 0, none⟩))).alloc (.cells #[.slice sa sn sc, .int .i64 room, .bool over, .bool rd, .int .i64 bk, .slice none 0 0, .int .i64 0] 106)
  have hnb := Blk.new (wq.setCell ⟨gb, 1, none⟩ (.pointer (some ⟨wq.heap.size, 0, none⟩))) #[.slice sa sn sc, .int .i64 room, .bool over, .bool rd, .int .i64 bk, .slice none 0 0, .int .i64 0] 106
  rw [sz_put] at hnb
  have hT : TankAt _ _ 40 wq.heap.size (freshT zs room over) rd bk :=
    ⟨sa, sn, sc, none, 0, 0, Own.give_same r wq.heap.size 40, hnb, (hZ.step hq0 (fun _ h => by cases h)).step k2 (fun _ h => by cases h), ⟨Row.nil _ _ _, fun x hx => by cases hx⟩, fun x hx => by cases hx⟩
  have hGE : GearAt _ _ gb fr (.pointer (some ⟨wq.heap.size, 0, none⟩)) lim sp cp :=
    ⟨a1, n1, c1, a2, n2, c2, by rw [k2.old gb hgl]; exact hgb, hB4, hR1.step k2 (by omega), hR2.step k2 (by omega)⟩
  have hQB4 := (hqb.other (.pointer (some ⟨wq.heap.size, 0, none⟩)) (p := ⟨gb, 1, none⟩) (by show gb ≠ _; omega)).alloc (.cells #[.slice sa sn sc, .int .i64 room, .bool over, .bool rd, .int .i64 bk, .slice none 0 0, .int .i64 0] 106)
  have hK := (hq0.mono (K' := fun j => j = 32 ∨ j = 40) (fun _ h => h.elim)).trans k2
  have hP4 := hP.step hK
  clear hnb hB4 k1 k2 hR1 hR2 hB hqb d0 d1 d2 d3 d4 d5 hG hZ hwq g1 f1 hq0
  generalize hw5 : (wq.setCell ⟨gb, 1, none⟩ (.pointer (some ⟨wq.heap.size, 0, none⟩))).alloc (.cells #[.slice sa sn sc, .int .i64 room, .bool over, .bool rd, .int .i64 bk, .slice none 0 0, .int .i64 0] 106) = w5 at *
  generalize hr5 : r.give wq.heap.size 40 = r5 at *
  generalize wq.heap.size = tb at *
  clear hw5 hr5
  have hlen := hP4.len
  have hpc := hP4.1.1.le
  have hpm := hP4.1.1.max
  unfold maxLen at hpm
  have hSR : ∀ v, v = (if rd then .iface 108 (.agg #[.pointer (some ⟨tb, 0, none⟩)]) else .iface 55 (.pointer (some ⟨tb, 0, none⟩))) → SnkRel gb fr lim sp cp rd bk ps (freshT zs room over) w r v 0 w5 := fun v hv =>
    ⟨r5, ⟨rd, fun _ => tb⟩, rfl, hK.mono (fun k hk => by unfold KS; omega), ⟨tb, hv, hT, rfl⟩, by rw [show skCounts ⟨rd, fun _ => tb⟩ (uptoK ps 0) = [] from rfl, List.append_nil]; exact hGE⟩
  have d5 := hQB4.cell 5 rfl
  have d3 := hQB4.cell 3 rfl
  obtain ⟨_, _, _, _, _, _, _, hGB5, _⟩ := hGE
  have g1 := hGB5.cell 1 rfl
  have HSR := Lib.hid hSR
  have HP0 := Lib.hid hP
  have HL := Lib.hid hlen
  have HBND := Lib.hid hbnd
  clear hSR hT hGB5 hK hP4 hlen hQB4 hbnd hP
  cases rd
  · go_wp2_with fail
    clear d3 d5 g1
    go_loopw [5, 35] (fun v t wr => ∃ k, k ≤ pn ∧ t = .int .i64 (k : Int) ∧ SnkRel gb fr lim sp cp false bk ps (freshT zs room over) w r v k wr) (fun _ t _ => pn - (intOf t).toNat)
    case atStart => exact ⟨0, Nat.zero_le _, rfl, HSR.out _ rfl⟩
    case round =>
      obtain ⟨k, hk, rfl, hrel⟩ := hrel
      have HREL := Lib.hid hrel
      clear hrel
      by_cases hlt : k < pn
      · obtain ⟨rx, sk, hsw, gx, hSx, hGx⟩ := HREL.out
        have hPx := HP0.out.step gx
        obtain ⟨b, off, p, hpa, hbl, hpk, hmem, hcell⟩ := hPx.at hlt
        have hul : (uptoK ps k).length = k := uptoK_len (by rw [HL.out]; omega)
        obtain ⟨K0, rv0, hM0⟩ := sinkMeth hSx
        obtain ⟨T, y, hve, _⟩ := hM0
        subst hve
        have has := sinkAs116 hSx 65
        obtain ⟨op, pn1, psa, psn, psc, pzs, proom, pover, prd, pbk⟩ := p
        subst hpa
        have q0 := hcell 0 (by omega)
        have q1 := hcell 1 (by omega)
        have q2 := hcell 2 (by omega)
        have q3 := hcell 3 (by omega)
        have q4 := hcell 4 (by omega)
        have q5 := hcell 5 (by omega)
        have q6 := hcell 6 (by omega)
        simp only [Pp.cells, List.getElem?_cons_zero, List.getElem?_cons_succ, Nat.add_zero] at q0 q1 q2 q3 q4 q5 q6
        have hki : (k : Int) < pn := by omega
        have HGX := Lib.hid gx
        have HSX := Lib.hid hSx
        have HGG := Lib.hid hGx
        have HPK := Lib.hid hpk
        have hk15 : k ≤ 20 := by omega
        have ha0 := Lib.hid ((Step.refl (fun _ => False) gx.bound).alloc (.cells #[.int .i64 op, .int .i64 pn1, .slice psa psn psc, .int .i64 proom, .bool pover, .bool prd, .int .i64 pbk] 43))
        clear gx hSx hGx hPx hcell hpk hmem
        by_cases h2 : op = 2
        · subst h2
          go_wp2_with fail
          refine (counterN (k := 41 + k) (HGG.out.step ha0.out id id id) ha0.out.bound (by rw [List.length_append]; have := skCounts_len sk (uptoK ps k); omega) (by omega)).mono ?_
          rintro e w6 ⟨rfl, hC6⟩
          have HC6 := Lib.hid hC6
          have hlt6 : (wr.alloc (.cells #[.int .i64 2, .int .i64 pn1, .slice psa psn psc, .int .i64 proom, .bool pover, .bool prd, .int .i64 pbk] 43)).heap.size < w6.heap.size := by obtain ⟨_, _, _, _, h⟩ := hC6; exact h.lt
          clear hC6
          unfold ptr
          have HFIN := Lib.hid (fun (v' : Value) (w3 : World) (hb : Below w6.heap.size w6 w3) hv => SnkRel.count (v' := v') (w3 := w3) (by rw [HL.out]; exact hlt) HPK.out hsw rfl (HGX.out.alloc _) (HSX.out.step ha0.out (fun _ _ _ h => h)) HC6.out hb hv)
          cases hf : fastK sk.rd (uptoK ps k)
          · rw [hf] at has
            have has' : ∀ w', (Instr.typeAssert (.iface T y) 65 116 true).run Tryd.prog w' = .ok (.tuple #[.nilIface, .bool false]) w' := has
            have HF := Lib.hid hf
            clear has hf
            go_wp2
            go_roundw
            case rel => exact ⟨k + 1, by omega, by go_num, HFIN.out _ _ ((Below.refl _ _).alloc (Nat.le_refl _) _) (by rw [HF.out, sz_alloc]; rfl)⟩
            case measure => simp [intOf]; omega
          · rw [hf] at has
            have has' : ∀ w', (Instr.typeAssert (.iface T y) 65 116 true).run Tryd.prog w' = .ok (.tuple #[.iface T y, .bool true]) w' := has
            have HF := Lib.hid hf
            clear has hf
            go_wp2
            go_roundw
            case rel => exact ⟨k + 1, by omega, by go_num, HFIN.out _ _ ((Below.refl _ _).alloc (Nat.le_refl _) _) (by rw [HF.out, sz_alloc]; rfl)⟩
            case measure => simp [intOf]; omega
        · have h2' : (op != 2) = true := by simpa using h2
          have H2 := Lib.hid h2
          clear has h2
          go_wp2_with fail
          go_roundw
          case rel => exact ⟨k + 1, by omega, by go_num, SnkRel.plain (by rw [HL.out]; exact hlt) HPK.out hsw H2.out (HGX.out.alloc _) (HSX.out.step ha0.out (fun _ _ _ h => h)) (HGG.out.step ha0.out id id id)⟩
          case measure => simp [intOf]; omega
      · obtain rfl : k = pn := by omega
        go_wp2
        refine bodyPost_ret (v := u5) (by simp [results, Tryd.f31, go_sem]) rfl ?_
        exact ⟨u5, rfl, HREL.out⟩
  · go_wp2_with fail
    clear d3 d5 g1
    go_loopw [5, 35] (fun v t wr => ∃ k, k ≤ pn ∧ t = .int .i64 (k : Int) ∧ SnkRel gb fr lim sp cp true bk ps (freshT zs room over) w r v k wr) (fun _ t _ => pn - (intOf t).toNat)
    case atStart => exact ⟨0, Nat.zero_le _, rfl, HSR.out _ rfl⟩
    case round =>
      obtain ⟨k, hk, rfl, hrel⟩ := hrel
      have HREL := Lib.hid hrel
      clear hrel
      by_cases hlt : k < pn
      · obtain ⟨rx, sk, hsw, gx, hSx, hGx⟩ := HREL.out
        have hPx := HP0.out.step gx
        obtain ⟨b, off, p, hpa, hbl, hpk, hmem, hcell⟩ := hPx.at hlt
        have hul : (uptoK ps k).length = k := uptoK_len (by rw [HL.out]; omega)
        obtain ⟨K0, rv0, hM0⟩ := sinkMeth hSx
        obtain ⟨T, y, hve, _⟩ := hM0
        subst hve
        have has := sinkAs116 hSx 65
        obtain ⟨op, pn1, psa, psn, psc, pzs, proom, pover, prd, pbk⟩ := p
        subst hpa
        have q0 := hcell 0 (by omega)
        have q1 := hcell 1 (by omega)
        have q2 := hcell 2 (by omega)
        have q3 := hcell 3 (by omega)
        have q4 := hcell 4 (by omega)
        have q5 := hcell 5 (by omega)
        have q6 := hcell 6 (by omega)
        simp only [Pp.cells, List.getElem?_cons_zero, List.getElem?_cons_succ, Nat.add_zero] at q0 q1 q2 q3 q4 q5 q6
        have hki : (k : Int) < pn := by omega
        have HGX := Lib.hid gx
        have HSX := Lib.hid hSx
        have HGG := Lib.hid hGx
        have HPK := Lib.hid hpk
        have hk15 : k ≤ 20 := by omega
        have ha0 := Lib.hid ((Step.refl (fun _ => False) gx.bound).alloc (.cells #[.int .i64 op, .int .i64 pn1, .slice psa psn psc, .int .i64 proom, .bool pover, .bool prd, .int .i64 pbk] 43))
        clear gx hSx hGx hPx hcell hpk hmem
        by_cases h2 : op = 2
        · subst h2
          go_wp2_with fail
          refine (counterN (k := 41 + k) (HGG.out.step ha0.out id id id) ha0.out.bound (by rw [List.length_append]; have := skCounts_len sk (uptoK ps k); omega) (by omega)).mono ?_
          rintro e w6 ⟨rfl, hC6⟩
          have HC6 := Lib.hid hC6
          have hlt6 : (wr.alloc (.cells #[.int .i64 2, .int .i64 pn1, .slice psa psn psc, .int .i64 proom, .bool pover, .bool prd, .int .i64 pbk] 43)).heap.size < w6.heap.size := by obtain ⟨_, _, _, _, h⟩ := hC6; exact h.lt
          clear hC6
          unfold ptr
          have HFIN := Lib.hid (fun (v' : Value) (w3 : World) (hb : Below w6.heap.size w6 w3) hv => SnkRel.count (v' := v') (w3 := w3) (by rw [HL.out]; exact hlt) HPK.out hsw rfl (HGX.out.alloc _) (HSX.out.step ha0.out (fun _ _ _ h => h)) HC6.out hb hv)
          cases hf : fastK sk.rd (uptoK ps k)
          · rw [hf] at has
            have has' : ∀ w', (Instr.typeAssert (.iface T y) 65 116 true).run Tryd.prog w' = .ok (.tuple #[.nilIface, .bool false]) w' := has
            have HF := Lib.hid hf
            clear has hf
            go_wp2
            go_roundw
            case rel => exact ⟨k + 1, by omega, by go_num, HFIN.out _ _ ((Below.refl _ _).alloc (Nat.le_refl _) _) (by rw [HF.out, sz_alloc]; rfl)⟩
            case measure => simp [intOf]; omega
          · rw [hf] at has
            have has' : ∀ w', (Instr.typeAssert (.iface T y) 65 116 true).run Tryd.prog w' = .ok (.tuple #[.iface T y, .bool true]) w' := has
            have HF := Lib.hid hf
            clear has hf
            go_wp2
            go_roundw
            case rel => exact ⟨k + 1, by omega, by go_num, HFIN.out _ _ ((Below.refl _ _).alloc (Nat.le_refl _) _) (by rw [HF.out, sz_alloc]; rfl)⟩
            case measure => simp [intOf]; omega
        · have h2' : (op != 2) = true := by simpa using h2
          have H2 := Lib.hid h2
          clear has h2
          go_wp2_with fail
          go_roundw
          case rel => exact ⟨k + 1, by omega, by go_num, SnkRel.plain (by rw [HL.out]; exact hlt) HPK.out hsw H2.out (HGX.out.alloc _) (HSX.out.step ha0.out (fun _ _ _ h => h)) (HGG.out.step ha0.out id id id)⟩
          case measure => simp [intOf]; omega
      · obtain rfl : k = pn := by omega
        go_wp2
        refine bodyPost_ret (v := u5) (by simp [results, Tryd.f31, go_sem]) rfl ?_
        exact ⟨u5, rfl, HREL.out⟩
end Go.Proofs.YtigfgdefgnahpaaDoor
