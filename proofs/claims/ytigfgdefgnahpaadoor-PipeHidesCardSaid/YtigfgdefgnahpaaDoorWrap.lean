/-
  The walk of wrap (the code's). Not a statement of the seat.
-/
import Derived.Test.YtigfgdefgnahpaaDoorGear
import Derived.Deep.Cut
namespace Go.Proofs.YtigfgdefgnahpaaDoor
open Go.RowKit

def Sh.upd (sh : Sh) (k b : Nat) : Sh := ⟨sh.wr, fun i => if i = k then b else sh.bl i⟩
theorem Chain.congr {w : World} {r : Own} {sh sh' : Sh} (hw : sh'.wr = sh.wr) : ∀ {l : List Wr} {v : Value} {s : Sc}, Chain w r sh v l s → (∀ i, i ≤ l.length → sh'.bl i = sh.bl i) → Chain w r sh' v l s
  | [], v, s, h, hb => by
    obtain ⟨fs, h1, h2, h3⟩ := h
    exact ⟨fs, by rw [hw]; exact h1, by rw [hw]; exact h2, by rw [hb 0 (Nat.le_refl _)]; exact h3⟩
  | x :: l, v, s, h, hb => by
    obtain ⟨below, h1, h2⟩ := h
    exact ⟨below, h1.congr hw (fun i hi => hb i (by simp; omega)), by rw [hw, hb _ (by simp)]; exact h2⟩

/-- a wrapper as it begins -/
def freshT (zs : List Int) (room : Int) (over : Bool) : Tank := ⟨zs, room, over, [], 0⟩
def freshW (op n : Int) (zs : List Int) (room : Int) (over : Bool) : Wr := ⟨op, n, 0, freshT zs room over⟩
def WrapW (gb : Nat) (fr to : Value) (sp cp : List Value) (sh : Sh) (l : List Wr) (s : Sc) (x : Wr) (v : Value) (w : World) (r : Own) (w' : World) : Prop :=
  ∃ r' b, Step (fun j => (32 ≤ j ∧ j ≤ 34) ∨ j = l.length + 1) w r w' r' ∧ Chain w' r' (sh.upd (l.length + 1) b) v (x :: l) s ∧
    GearAt w' r' gb fr to (if x.op = 3 then ptr b else .pointer none) (if x.op = 4 then sp ++ [ptr b] else sp) (if x.op = 2 then cp ++ [ptr b] else cp)

def WrapP (gb : Nat) (fr to : Value) (sp cp : List Value) (sh : Sh) (l : List Wr) (s : Sc) (x : Wr) (w : World) (r : Own) (e : Ending) (w' : World) : Prop :=
  ∃ v, e = .returned v ∧ WrapW gb fr to sp cp sh l s x v w r w'
theorem ptr55Info : ∃ i : TypeInfo, Tryd.prog.info? 55 = some i ∧ i.zero = some (.pointer none) ∧ i.size = 1 ∧ i.bytes = 8 := by
  have h : (Tryd.prog.info? 55).map (fun i => (i.zero, i.size, i.bytes)) = some (some (.pointer none), 1, 8) := by kernel_rfl
  cases hi : Tryd.prog.info? 55 with
  | none => rw [hi] at h; cases h
  | some i =>
    rw [hi] at h
    simp only [Option.map_some, Option.some.injEq, Prod.mk.injEq] at h
    exact ⟨i, rfl, h.1, h.2.1, h.2.2⟩

set_option maxRecDepth 100000 in
set_option maxHeartbeats 1000000 in
theorem wrapN {gb : Nat} {fr to lim0 : Value} {sp cp : List Value} {sh : Sh} {l : List Wr} {s : Sc} {below : Value} {op n room bk : Int} {over : Bool} {sa : Option Addr} {sn sc : Nat} {zs : List Int} {w : World} {r : Own}
    (hG : GearAt w r gb fr to lim0 sp cp) (hC : Chain w r sh below l s) (hZ : RdK w r none 1 sa sn sc (I3 zs)) (hbnd : Bnd w r) (hl : l.length < 20) (hc1 : cp.length ≤ 1000) (hc2 : sp.length ≤ 1000) :
    Calls Tryd.prog 38 #[.pointer (some ⟨gb, 0, none⟩), below, .agg #[.int .i64 op, .int .i64 n, .slice sa sn sc, .int .i64 room, .bool over, .bool false, .int .i64 bk]] w
      (WrapP gb fr to sp cp sh l s (freshW op n zs room over) w r) := by
  obtain ⟨K0, rv0, hM0⟩ := chainMeth hC
  obtain ⟨T, y, hbe, _⟩ := hM0
  subst hbe
  obtain ⟨wq, hwq⟩ : ∃ wq, w.alloc (.cells #[.int .i64 op, .int .i64 n, .slice sa sn sc, .int .i64 room, .bool over, .bool false, .int .i64 bk] 43) = wq := ⟨_, rfl⟩
  have hq0 : Step (fun _ => False) w r wq r := by rw [← hwq]; exact (Step.refl _ hbnd).alloc _
  have hqb : Blk wq w.heap.size [.int .i64 op, .int .i64 n, .slice sa sn sc, .int .i64 room, .bool over, .bool false, .int .i64 bk] := by rw [← hwq]; exact Blk.new _ _ _
  have hG1 := hG.step hq0 id id id
  obtain ⟨a1, n1, c1, a2, n2, c2, hgb, hB, hR1, hR2⟩ := hG1
  have hlt : gb < w.heap.size := by obtain ⟨_, _, _, _, _, _, _, h, _⟩ := hG; exact h.lt
  have k4 : Step (fun j => j = 32) wq r (wq.setCell ⟨gb, 4, none⟩ (.pointer none)) r := (Step.refl _ hq0.bound).put _ (fun _ => ⟨32, hgb, rfl⟩)
  have hB4 := hB.set (j := 4) (.pointer none)
  have hQ4 : Blk (wq.setCell ⟨gb, 4, none⟩ (.pointer none)) w.heap.size _ := hqb.other _ (by show gb ≠ w.heap.size; omega)
  have hG4 : GearAt (wq.setCell ⟨gb, 4, none⟩ (.pointer none)) r gb fr to (.pointer none) sp cp := ⟨a1, n1, c1, a2, n2, c2, hgb, hB4, hR1.step k4 (by omega), hR2.step k4 (by omega)⟩
  have f4 := hB.free 4 (by simp)
  have c4 := hB.cell 4 rfl
  have d0 := hQ4.cell 0 rfl
  have d1 := hQ4.cell 1 rfl
  have d2 := hQ4.cell 2 rfl
  have d3 := hQ4.cell 3 rfl
  have d4 := hQ4.cell 4 rfl
  have d5 := hQ4.cell 5 rfl
  have d6 := hQ4.cell 6 rfl
  have gq4 : Step (fun j => j = 32) w r (wq.setCell ⟨gb, 4, none⟩ (.pointer none)) r := (hq0.mono (fun _ h => h.elim)).trans k4
  have hC4 : Chain (wq.setCell ⟨gb, 4, none⟩ (.pointer none)) r sh (.iface T y) l s := hC.step gq4 (fun k hk e => by omega) (by omega)
  have hZ4 := hZ.step gq4 (fun _ h => by cases h)
  have has := chainAs132 hC 62
  have hsz4 : w.heap.size < (wq.setCell ⟨gb, 4, none⟩ (.pointer none)).heap.size := by rw [← hwq]; simp [World.setCell]
  have HG4 := Lib.hid hG4
  have HC4 := Lib.hid hC4
  have HZ4 := Lib.hid hZ4
  have HGQ := Lib.hid gq4
  have HGB := Lib.hid hgb
  have HLT := Lib.hid hlt
  have HS4 := Lib.hid hsz4
  clear hG hC hZ hqb hB hR1 hR2 k4 hB4 hQ4 hG4 gq4 hC4 hZ4 hq0 hsz4
  by_cases h2 : op = 2
  · subst h2
    go_enter Tryd.func38, Tryd.ntmps38
    go_wp2_with fail
    clear hwq f4 c4
    generalize wq.setCell ⟨gb, 4, none⟩ (.pointer none) = w5 at HG4 HC4 HZ4 HGQ HS4 d0 d1 d2 d3 d4 d5 d6 ⊢
    refine (counterN (k := l.length + 1) HG4.out HGQ.out.bound hc1 (by omega)).mono ?_
    rintro e w6 ⟨rfl, r6, g6, hG6, hk6, hb6⟩
    have G6 := Lib.hid (HGQ.out.mono (K' := fun j => (32 ≤ j ∧ j ≤ 34) ∨ j = l.length + 1) (fun k hk => by subst hk; exact .inl ⟨by omega, by omega⟩) |>.trans (g6.mono (fun k hk => by omega)))
    have HG6 := Lib.hid hG6
    have HK6 := Lib.hid hk6
    have HB6 := Lib.hid hb6
    have HC6 := Lib.hid (HC4.out.step g6 (fun k hk e => by omega) (by omega))
    have HL5 := Lib.hid (show w5.heap.size < w6.heap.size from hb6.lt)
    unfold ptr
    clear g6 hG6 hk6 hb6 HG4 HC4 HZ4 HGQ d0 d1 d2 d3 d4 d5 d6
    have hfin : ∀ (o : Obj) (v : Value), v = (if fastB sh.wr l then .iface 135 (.agg #[(.iface T y), .pointer (some ⟨w5.heap.size, 0, none⟩), (.iface T y)]) else .iface 130 (.agg #[(.iface T y), .pointer (some ⟨w5.heap.size, 0, none⟩)])) →
        WrapW gb fr to sp cp sh l s (freshW 2 n zs room over) v w r (w6.alloc o) := by
      intro o v hv
      have g7 : Step (fun _ => False) w6 r6 (w6.alloc o) r6 := (Step.refl _ G6.out.bound).alloc _
      refine ⟨r6, w5.heap.size, G6.out.alloc o, ⟨_, ((HC6.out.step g7 (fun _ _ h => h) id).congr (sh := sh) (sh' := sh.upd (l.length + 1) w5.heap.size) rfl (fun i hi => by simp only [Sh.upd]; rw [if_neg (by omega)])), ?_⟩, ?_⟩
      · unfold WrapAt
        rw [if_pos (show (freshW 2 n zs room over).op = 2 from rfl)]
        exact ⟨w5.heap.size, hv, HK6.out, HB6.out.step g7 HK6.out id, by simp [Sh.upd]⟩
      · exact HG6.out.step g7 id id id
    have HF := Lib.hid hfin
    clear hfin
    cases hf : fastB sh.wr l
    · rw [hf] at has
      have has' : ∀ w', (Instr.typeAssert (.iface T y) 62 132 true).run Tryd.prog w' = .ok (.tuple #[.nilIface, .bool false]) w' := has
      clear has
      go_wp2
      refine bodyPost_ret (v := .iface 130 (.agg #[(.iface T y), .pointer (some ⟨w5.heap.size, 0, none⟩)])) (by simp [results, Tryd.f38, go_sem]) rfl ?_
      exact ⟨_, rfl, HF.out _ _ (by rw [hf]; rfl)⟩
    · rw [hf] at has
      have has' : ∀ w', (Instr.typeAssert (.iface T y) 62 132 true).run Tryd.prog w' = .ok (.tuple #[(.iface T y), .bool true]) w' := has
      clear has
      go_wp2
      refine bodyPost_ret (v := .iface 135 (.agg #[(.iface T y), .pointer (some ⟨w5.heap.size, 0, none⟩), (.iface T y)])) (by simp [results, Tryd.f38, go_sem]) rfl ?_
      exact ⟨_, rfl, HF.out _ _ (by rw [hf]; rfl)⟩
  · clear has
    by_cases h3 : op = 3
    · subst h3
      go_enter Tryd.func38, Tryd.ntmps38
      go_upto_region 10 with (fail)
      clear hwq f4 c4
      generalize wq.setCell ⟨gb, 4, none⟩ (.pointer none) = w5 at HG4 HC4 HZ4 HGQ HS4 d0 d1 d2 d3 d4 d5 d6 ⊢
      obtain ⟨a1', n1', c1', a2', n2', c2', hgb', hB', hR1', hR2'⟩ := HG4.out
      have hgl := hB'.lt
      have c2 := hB'.cell 2 rfl
      have f2 := hB'.free 2 (by simp)
      have c4 := hB'.cell 4 rfl
      have f4 := hB'.free 4 (by simp)
      have HB' := Lib.hid hB'
      have HR1' := Lib.hid hR1'
      have HR2' := Lib.hid hR2'
      have HGB' := Lib.hid hgb'
      clear hB' hR1' hR2' hgb'
      go_wp2
      refine bodyPost_ret (v := .iface 58 (.pointer (some ⟨w5.heap.size, 0, none⟩))) (by simp [results, Tryd.f38, go_sem]) rfl ?_
      have hne : gb ≠ w5.heap.size := by omega
      have hle5 : w.heap.size ≤ w5.heap.size := by have := HS4.out; omega
      have kb := ((Step.refl (fun j => j = 32 ∨ j = l.length + 1) HGQ.out.bound).put (p := ⟨gb, 4, none⟩) (.pointer (some ⟨w5.heap.size, 0, none⟩)) (fun _ => ⟨32, HGB'.out, .inl rfl⟩)).alloc (.cells #[.iface T y, .int .i64 n] 124)
      have hsz5 : (w5.setCell ⟨gb, 4, none⟩ (.pointer (some ⟨w5.heap.size, 0, none⟩))).heap.size = w5.heap.size := by simp [World.setCell]
      have hnew := Blk.new (w5.setCell ⟨gb, 4, none⟩ (.pointer (some ⟨w5.heap.size, 0, none⟩))) #[.iface T y, .int .i64 n] 124
      rw [hsz5] at hnew
      have k5 := kb.give (b := w5.heap.size) (k := l.length + 1) (Nat.le_refl _) (by simp [World.setCell]) (.inr rfl)
      refine ⟨_, rfl, _, w5.heap.size, (HGQ.out.mono (K' := fun j => (32 ≤ j ∧ j ≤ 34) ∨ j = l.length + 1) (fun k hk => by subst hk; exact .inl ⟨by omega, by omega⟩)).trans (k5.mono (fun k hk => by omega)), ⟨_, (HC4.out.step k5 (fun k hk e => by omega) (by omega)).congr (sh := sh) (sh' := sh.upd (l.length + 1) w5.heap.size) rfl (fun i hi => by simp only [Sh.upd]; rw [if_neg (by omega)]), ?_⟩, ?_⟩
      · unfold WrapAt
        rw [if_neg (show ¬ (freshW 3 n zs room over).op = 2 from (by decide : ¬ (3 : Int) = 2)), if_pos (show (freshW 3 n zs room over).op = 3 from rfl)]
        exact ⟨w5.heap.size, rfl, Own.give_same _ _ _, hnew, by simp [Sh.upd]⟩
      · refine ⟨a1', n1', c1', a2', n2', c2', by rw [Own.give_other _ hne]; exact HGB'.out, (HB'.out.set (j := 4) _).alloc _, HR1'.out.step k5 (by omega), HR2'.out.step k5 (by omega)⟩
    · by_cases h4 : op = 4
      · subst h4
        go_enter Tryd.func38, Tryd.ntmps38
        go_upto_region 13 with (fail)
        clear hwq f4 c4
        generalize wq.setCell ⟨gb, 4, none⟩ (.pointer none) = w5 at HG4 HC4 HZ4 HGQ HS4 d0 d1 d2 d3 d4 d5 d6 ⊢
        obtain ⟨a1', n1', c1', a2', n2', c2', hgb', hB', hR1', hR2'⟩ := HG4.out
        have hgl := hB'.lt
        have c2 := hB'.cell 2 rfl
        have f2 := hB'.free 2 (by simp)
        have c4 := hB'.cell 4 rfl
        have f4 := hB'.free 4 (by simp)
        have HB' := Lib.hid hB'
        have HR1' := Lib.hid hR1'
        have HR2' := Lib.hid hR2'
        have HGB' := Lib.hid hgb'
        clear hB' hR1' hR2' hgb'
        have hne : gb ≠ w5.heap.size := by omega
        have hle5 : w.heap.size ≤ w5.heap.size := by have := HS4.out; omega
        have hn1 : sp.length = n1' := by have := HR1'.out.1.rd.len; omega
        obtain ⟨i0, hy0, hy1, hy2, hy3⟩ := ptr55Info
        have u56 := Tryd.underlying56
        obtain ⟨wa, hwa⟩ : ∃ wa, w5.alloc (.cells #[.slice sa sn sc, .int .i64 room, .bool over, .bool false, .int .i64 bk, .slice none 0 0, .int .i64 0] 106) = wa := ⟨_, rfl⟩
        have ka : Step (fun j => j = l.length + 1) w5 r wa (r.give w5.heap.size (l.length + 1)) := by rw [← hwa]; exact ((Step.refl _ HGQ.out.bound).alloc _).give (Nat.le_refl _) (by simp) rfl
        have ka0 : Step (fun _ => False) w5 r wa r := by rw [← hwa]; exact (Step.refl _ HGQ.out.bound).alloc _
        have hsa : wa.heap.size = w5.heap.size + 1 := by rw [← hwa]; simp
        have hbA : Blk wa w5.heap.size [.slice sa sn sc, .int .i64 room, .bool over, .bool false, .int .i64 bk, .slice none 0 0, .int .i64 0] := by rw [← hwa]; exact Blk.new _ _ _
        have hBa := HB'.out.step ka0 HGB'.out id
        have cA2 := hBa.cell 2 rfl
        have fA2 := hBa.free 2 (by simp)
        have hRa := HR1'.out.step ka0 id
        have hneR : ∀ x, blockOf a1' = some x → x ≠ gb := fun x hx e => by subst e; have := HR1'.out.2 x hx; rw [HGB'.out] at this; cases this
        have hneS : ∀ x, blockOf a1' = some x → x ≠ w5.heap.size := fun x hx e => by have := (HR1'.out.1.lt x hx).2; omega
        have KA := Lib.hid ka
        have HSA := Lib.hid hsa
        have HBA := Lib.hid hbA
        have HBa := Lib.hid hBa
        have HRa := Lib.hid hRa
        clear ka ka0 hbA hBa hRa
        go_wp2_with (at_builtin; go_must (refine wpList_append_row rfl _ _ 56 56 rfl 55 i0 (.pointer none) 1 8 u56 hy0 hy1 hy2 hy3 rfl rfl (HRa.out.1.alloc _) 1 [ptr w5.heap.size] (Src.oneAt u56 (ptr w5.heap.size) _ rfl HSA.out.symm) (by unfold maxLen; omega) (by omega) (Nat.zero_le _) ?_; intro a' c' w4 hrow hgr hbk; have HW2 := Lib.hid hrow; have HG2 := Lib.hid hgr; have HK2 := Lib.hid hbk; clear hrow hgr hbk; have BB2 := Lib.hid ((HBa.out.alloc _).grown HG2.out (fun e => hneR _ e rfl)); have cq2 := BB2.out.cell 2 rfl; have fq2 := BB2.out.free 2 (by simp)))
        refine bodyPost_ret (v := .iface 137 (.agg #[.iface T y, .iface 55 (.pointer (some ⟨w5.heap.size, 0, none⟩))])) (by simp [results, Tryd.f38, go_sem]) rfl ?_
        have g3 := (((KA.out.mono (K' := fun j => j = 32 ∨ j = 34 ∨ j = l.length + 1) (fun k hk => .inr (.inr hk))).alloc (.cells #[.pointer (some ⟨w5.heap.size, 0, none⟩)] 55)).grown HG2.out (fun x hx _ => ⟨34, HR1'.out.2 x hx, .inr (.inl rfl)⟩)).put (p := ⟨gb, 2, none⟩) (.slice a' (n1' + 1) c') (fun _ => ⟨32, HGB'.out, .inl rfl⟩)
        have hgb4 : ∀ x, blockOf a' = some x → x ≠ gb ∧ x ≠ w5.heap.size := fun x hx => by
          rcases HK2.out with h | h
          · rw [h] at hx; exact ⟨hneR x hx, hneS x hx⟩
          · rw [h] at hx; cases hx
            have e9 : (wa.alloc (.cells #[.pointer (some ⟨w5.heap.size, 0, none⟩)] 55)).heap.size = wa.heap.size + 1 := by simp
            have e8 := HSA.out
            exact ⟨by omega, by omega⟩
        have kB : Blk (w4.setCell ⟨gb, 2, none⟩ (.slice a' (n1' + 1) c')) gb [fr, to, .slice a' (n1' + 1) c', .slice a2' n2' c2', .pointer none] := BB2.out.set (j := 2) _
        have kT : Blk (w4.setCell ⟨gb, 2, none⟩ (.slice a' (n1' + 1) c')) w5.heap.size [.slice sa sn sc, .int .i64 room, .bool over, .bool false, .int .i64 bk, .slice none 0 0, .int .i64 0] := ((HBA.out.alloc _).grown HG2.out (fun e => hneS _ e rfl)).other _ (by show gb ≠ _; exact hne)
        have kR : Row 0 (w4.setCell ⟨gb, 2, none⟩ (.slice a' (n1' + 1) c')) 1 a' (n1' + 1) c' (sp ++ [ptr w5.heap.size]) := HW2.out.kept (grownBy_setAt _ _ _) (.inl (fun e => (hgb4 gb e).1 rfl))
        have hend : ∀ r6, Step (fun j => j = 32 ∨ j = 34 ∨ j = l.length + 1) w5 r (w4.setCell ⟨gb, 2, none⟩ (.slice a' (n1' + 1) c')) r6 → r6 w5.heap.size = some (l.length + 1) → (∀ x, blockOf a' = some x → r6 x = some 34) →
            WrapP gb fr to sp cp sh l s (freshW 4 n zs room over) w r (.returned (.iface 137 (.agg #[.iface T y, .iface 55 (.pointer (some ⟨w5.heap.size, 0, none⟩))]))) (w4.setCell ⟨gb, 2, none⟩ (.slice a' (n1' + 1) c')) := by
          intro r6 k5 k6 k7
          refine ⟨_, rfl, _, w5.heap.size, (HGQ.out.mono (K' := fun j => (32 ≤ j ∧ j ≤ 34) ∨ j = l.length + 1) (fun k hk => by subst hk; exact .inl ⟨by omega, by omega⟩)).trans (k5.mono (fun k hk => by omega)), ⟨_, (HC4.out.step k5 (fun k hk e => by omega) (by omega)).congr (sh := sh) (sh' := sh.upd (l.length + 1) w5.heap.size) rfl (fun i hi => by simp only [Sh.upd]; rw [if_neg (by omega)]), ?_⟩, ?_⟩
          · unfold WrapAt
            rw [if_neg (show ¬ (freshW 4 n zs room over).op = 2 from (by decide : ¬ (4 : Int) = 2)), if_neg (show ¬ (freshW 4 n zs room over).op = 3 from (by decide : ¬ (4 : Int) = 3)), if_pos (show (freshW 4 n zs room over).op = 4 from rfl)]
            refine ⟨w5.heap.size, bk, rfl, ⟨sa, sn, sc, none, 0, 0, k6, kT, HZ4.out.step k5 (fun _ h => by cases h), ⟨Row.nil _ _ _, fun x hx => by cases hx⟩, fun x hx => by cases hx⟩, by simp [Sh.upd]⟩
          · refine ⟨a', n1' + 1, c', a2', n2', c2', by rw [k5.old gb hgl]; exact HGB'.out, kB, ⟨kR, k7⟩, HR2'.out.step k5 (by omega)⟩
        rcases HK2.out with h | h
        · refine hend _ g3 (Own.give_same _ _ _) (fun x hx => ?_)
          rw [h] at hx
          rw [g3.old x (HR1'.out.1.lt x hx).2]
          exact HR1'.out.2 x hx
        · have hlt4 := (kR.lt _ h).2
          have g4 := g3.give (b := (wa.alloc (.cells #[.pointer (some ⟨w5.heap.size, 0, none⟩)] 55)).heap.size) (k := 34) (by have := HSA.out; simp; omega) hlt4 (.inr (.inl rfl))
          refine hend _ g4 ?_ (fun x hx => ?_)
          · rw [Own.give_other _ (by have := HSA.out; simp; omega)]; exact Own.give_same _ _ _
          · rw [h] at hx; cases hx; exact Own.give_same _ _ _
      · have e2 : (op == 2) = false := by simpa using h2
        have e3 : (op == 3) = false := by simpa using h3
        have e4 : (op == 4) = false := by simpa using h4
        go_enter Tryd.func38, Tryd.ntmps38
        go_wp2
        refine bodyPost_ret (v := .iface 139 (.agg #[(.iface T y)])) (by simp [results, Tryd.f38, go_sem]) rfl ?_
        refine ⟨_, rfl, r, 0, HGQ.out.mono (fun k hk => by subst hk; exact .inl ⟨by omega, by omega⟩), ⟨_, HC4.out.congr (sh := sh) (sh' := sh.upd (l.length + 1) 0) rfl (fun i hi => by simp only [Sh.upd]; rw [if_neg (by omega)]), ?_⟩, ?_⟩
        · unfold WrapAt
          rw [if_neg (by simpa [freshW] using h2), if_neg (by simpa [freshW] using h3), if_neg (by simpa [freshW] using h4)]
        · rw [if_neg (by simpa [freshW] using h3), if_neg (by simpa [freshW] using h4), if_neg (by simpa [freshW] using h2)]
          exact HG4.out
end Go.Proofs.YtigfgdefgnahpaaDoor
