/-
  The walk of Work's read at every level (the document's). Not a statement of the seat.
-/
import Derived.Test.YtigfgdefgnahpaaDoorWorkRows
namespace Go.Proofs.YtigfgdefgnahpaaDoor
open Go.RowKit

/-- what a reading may turn -/
def KW2 (j : Nat) : Prop := j ≤ 2 ∨ (10 ≤ j ∧ j < 1000)
/-- .. and a copying -/
def KW3 (j : Nat) : Prop := j < 1000
/-- behind a reading at the level of l -/
def RdL (wb : Nat) (X : Wk) (pre l : List Wr) (s : Sc) (k : List Int) (t : Tank) (m : Nat) (w : World) (r : Own) (e : Ending) (w' : World) : Prop :=
  ∃ a c r', e = .returned (.tuple #[.slice a (readM l s m).n c, .int .i64 (readM l s m).e]) ∧ Step KW2 w r w' r' ∧ RdK w' r' none 1 a (readM l s m).n c (B8 ((s.data.drop s.pos).take (readM l s m).n)) ∧
    WorkAt w' r' wb X (pre ++ (readM l s m).l) (readM l s m).s k t
theorem Blk.free0 {K : Nat → Prop} {w w' : World} {r r' : Own} {b : Nat} {cs : List Value} (h : Blk w b cs) (g : Step K w r w' r') (hb : r b = none) : Blk w' b cs ∧ r' b = none :=
  ⟨h.same (g.keep b h.1 (fun k hk => by rw [hb] at hk; cases hk)), by rw [g.old b h.1]; exact hb⟩

theorem WorkAt.calm {w w' : World} {r r' : Own} {wb : Nat} {X : Wk} {ws : List Wr} {s : Sc} {k : List Int} {t : Tank} (h : WorkAt w r wb X ws s k t) (g : Step (fun _ => False) w r w' r') : WorkAt w' r' wb X ws s k t := by
  obtain ⟨hwb, hB0, hd, hZ, hP, hQ, hR1, hR2, hR3, hR4, hT, hS, hO⟩ := h
  exact ⟨g.oldK hB0.lt hwb, hB0.step g hwb id, hd, hZ.step g (fun _ h => by cases h), hP.step g, hQ.step g, hR1.step g id, hR2.step g id, hR3.step g id, hR4.step g id, hT.step g id, fun j tj hj => (by
    obtain ⟨rdj, bkj, hTj⟩ := hS j tj hj
    exact ⟨rdj, bkj, hTj.step g id⟩), hO⟩
theorem RdL.of {wb : Nat} {X : Wk} {pre l : List Wr} {s : Sc} {k : List Int} {t : Tank} {m : Nat} {w w2 w3 : World} {r r2 : Own} {G : Got} (hG : readM l s m = G) (hb : Below w2.heap.size w2 w3) {a : Option Addr} {c : Nat} (g : Step KW2 w r w2 r2)
    (hR : RdK w2 r2 none 1 a G.n c (B8 ((s.data.drop s.pos).take G.n))) (hW : WorkAt w2 r2 wb X (pre ++ G.l) G.s k t) : RdL wb X pre l s k t m w r (.returned (.tuple #[.slice a G.n c, .int .i64 G.e])) w3 := by
  have hd : Step (fun _ => False) w2 r2 w3 r2 := (Step.refl _ g.bound).calm hb
  unfold RdL
  rw [hG]
  exact ⟨a, c, r2, rfl, g.trans (hd.mono (fun _ h => h.elim)), hR.step hd (fun _ h => by cases h), hW.calm hd⟩

set_option maxRecDepth 100000 in
set_option maxHeartbeats 4000000 in
theorem workReadStep {wb m lv : Nat} {X : Wk} {pre l : List Wr} {x : Wr} {s : Sc} {k : List Int} {t : Tank} {w : World} {r : Own}
    (hlv : lv = l.length + 1) (hl9 : lv ≤ 100) (hW : WorkAt w r wb X (pre ++ x :: l) s k t) (hok : s.ok) (ho : Oks (x :: l) s) (hk : s.k < 10000000000) (hm : m ≤ 1000000) (hbnd : Bnd w r)
    (ih : ∀ (m' : Nat) (w' : World), WorkAt w' r wb X ((pre ++ [x]) ++ l) s k t → m' ≤ 1000000 → Bnd w' r → Calls Tryd.prog 53 #[.pointer (some ⟨wb, 0, none⟩), .int .i64 (l.length : Nat), .int .i64 m'] w' (RdL wb X (pre ++ [x]) l s k t m' w' r)) :
    Calls Tryd.prog 53 #[.pointer (some ⟨wb, 0, none⟩), .int .i64 (lv : Nat), .int .i64 m] w (RdL wb X pre (x :: l) s k t m w r) := by
  obtain ⟨b, off, p, hpa, hb, hpo, hpc⟩ := hW.pipe
  have hlt := hW.lt
  obtain ⟨hwb, hB, hP, h15⟩ : r wb = some 0 ∧ Blk w wb (X.cells s t) ∧ RdK w r none 7 X.pa X.pn X.pc (rowC X.ps) ∧ (RowK w r 1 1 X.a1 X.pn X.c1 (I3 ((pre ++ x :: l).reverse.map Wr.lim)) ∧ RowK w r 3 1 X.a2 X.pn X.c2 (ptrsB X.bl X.pn) ∧ RowK w r 2 1 X.a3 X.pn X.c3 (I3 ((pre ++ x :: l).reverse.map Wr.cnt))) := by
    obtain ⟨h1, h2, _, _, h3, _, h4, h5, h6, _⟩ := hW
    exact ⟨h1, h2, h3.1, h4, h5, h6⟩
  have hpl := hP.1.le
  have hpm := hP.1.max
  have hc1 := h15.1.1.rd.le
  have hc1m := h15.1.1.rd.max
  have hc2 := h15.2.1.1.rd.le
  have hc2m := h15.2.1.1.rd.max
  have hc3 := h15.2.2.1.rd.le
  have hc3m := h15.2.2.1.rd.max
  unfold maxLen at hpm hc1m hc2m hc3m
  have c5 := hB.cell 5 rfl
  rw [hpa] at c5
  have p0 := hpc 0 (by omega)
  have p1 := hpc 1 (by omega)
  have p2 := hpc 2 (by omega)
  have p3 := hpc 3 (by omega)
  have p4 := hpc 4 (by omega)
  have p5 := hpc 5 (by omega)
  have p6 := hpc 6 (by omega)
  simp only [Pp.cells, List.getElem?_cons_zero, List.getElem?_cons_succ, Nat.add_zero] at p0 p1 p2 p3 p4 p5 p6
  rw [hpo] at p0
  have hlv1 : ((lv : Nat) : Int) - 1 = (l.length : Nat) := by omega
  have hlvz : (((lv : Nat) : Int) == 0) = false := by simp; omega
  have hli : ((l.length : Nat) : Int) < X.pn := by omega
  obtain ⟨wq, hwq⟩ : ∃ wq, w.alloc (.cells #[.int .i64 x.op, .int .i64 p.n, .slice p.sa p.sn p.sc, .int .i64 p.room, .bool p.over, .bool p.rd, .int .i64 p.bk] 43) = wq := ⟨_, rfl⟩
  have hq0 : Step (fun _ => False) w r wq r := by rw [← hwq]; exact (Step.refl _ hbnd).alloc _
  have hqb : Blk wq w.heap.size [.int .i64 x.op, .int .i64 p.n, .slice p.sa p.sn p.sc, .int .i64 p.room, .bool p.over, .bool p.rd, .int .i64 p.bk] := by rw [← hwq]; exact Blk.new _ _ _
  have hqn : r w.heap.size = none := hbnd _ (Nat.le_refl _)
  have hWq : WorkAt wq r wb X (pre ++ x :: l) s k t := by
    obtain ⟨hwb, hB0, hd, hZ, hP, hQ, hR1, hR2, hR3, hR4, hT, hS, hO⟩ := hW
    exact ⟨hwb, hB0.step hq0 hwb id, hd, hZ.step hq0 (fun _ h => by cases h), hP.step hq0, hQ.step hq0, hR1.step hq0 id, hR2.step hq0 id, hR3.step hq0 id, hR4.step hq0 id, hT.step hq0 id, fun j tj hj => (by
      obtain ⟨rdj, bkj, hTj⟩ := hS j tj hj
      exact ⟨rdj, bkj, hTj.step hq0 id⟩), hO⟩
  have hqwb : Blk wq wb (X.cells s t) := hB.step hq0 hwb id
  have hgood := readM_good (x :: l) s m hok ho
  have HRG := Lib.hid hgood
  have HW := Lib.hid hWq
  have HOK := Lib.hid hok
  have HO := Lib.hid ho
  have HQB := Lib.hid hqb
  have HQN := Lib.hid hqn
  have HQ0 := Lib.hid hq0
  have HQW := Lib.hid hqwb
  have HWB := Lib.hid hwb
  have HIH := Lib.hid ih
  obtain ⟨nb, hnb⟩ : ∃ nb, w.heap.size = nb := ⟨_, rfl⟩
  rw [hnb] at HQB HQN
  have q0 := HQB.out.cell 0 rfl
  have hop0 : x.op = x.op := rfl
  clear hlv hW hok ho hbnd ih hP hB hpc hqb hqn hq0 hqwb hWq hgood h15 hwb
  by_cases h3 : x.op = 3
  · have H3 := Lib.hid h3
    rw [h3] at hwq HQB p0 q0
    clear h3 hop0
    obtain ⟨b1, o1, ha1, hb1, hlc, hlf, hlo⟩ := HW.out.limAt
    have c14 := HQW.out.cell 14 rfl
    rw [ha1] at c14
    by_cases hz : x.lim ≤ 0
    · have hz' : decide (x.lim ≤ 0) = true := by simpa using hz
      go_enter Tryd.func53, Tryd.ntmps53
      go_wp2_with fail
      refine bodyPost_ret (v := .tuple #[.slice none 0 0, .int .i64 (-1)]) (by simp [results, Tryd.f53, go_sem]) rfl ?_
      have he : readM (x :: l) s m = { l := x :: l, s := s, n := 0, e := -1 } := by rw [readM, if_pos H3.out, if_pos hz]
      refine ⟨none, 0, r, by rw [he], HQ0.out.mono (fun _ h => h.elim), ?_, ?_⟩
      · rw [he]; exact ⟨⟨by simp [B8], Nat.zero_le _, by unfold maxLen; omega, .inl ⟨rfl, fun _ => rfl⟩⟩, .inl rfl⟩
      · rw [he]; exact HW.out
    · have hz' : decide (x.lim ≤ 0) = false := by simpa using hz
      have HZ9 := Lib.hid hz
      obtain ⟨m', hm'⟩ : ∃ m' : Nat, (if x.lim < m then x.lim.toNat else m) = m' := ⟨_, rfl⟩
      have hmm : m' ≤ m := by rw [← hm']; split <;> omega
      have hml : (m' : Int) ≤ x.lim := by rw [← hm']; split <;> omega
      have hx9 := (HO.out x (by simp)).2.2.2.2.2
      have hmi1 : (if (m : Int) < x.lim then (m : Int) else x.lim) = m' := by rw [← hm']; split <;> split <;> omega
      have hmi2 : (if x.lim < (m : Int) then x.lim else (m : Int)) = m' := by rw [← hm']; split <;> omega
      have HM9 := Lib.hid hm'
      clear hm'
      go_enter Tryd.func53, Tryd.ntmps53
      go_wp2_with fail
      refine (HIH.out m' wq (by rw [List.append_assoc]; exact HW.out) (by omega) HQ0.out.bound).mono ?_
      rintro e1 w1 ⟨ra, rc, r1, rfl, g1, hRd, hW1⟩
      have hxg : readM (x :: l) s m = { readM l s m' with l := limDown x (readM l s m').n :: (readM l s m').l } := by rw [readM, if_pos H3.out, if_neg (by have := HZ9.out; omega), HM9.out]
      rw [List.append_assoc, List.singleton_append] at hW1
      obtain ⟨G, hGG⟩ : ∃ G, readM l s m' = G := ⟨_, rfl⟩
      have hgl := readM_good l s m' HOK.out (fun y hy => HO.out y (by simp [hy]))
      rw [hGG] at hRd hW1 hxg hgl ⊢
      have hGlen : G.l.length = l.length := hgl.len
      have hGn : G.n ≤ m' := hgl.le
      obtain ⟨hx1, hx1n⟩ := HQB.out.free0 g1 HQN.out
      have HX1 := Lib.hid hx1
      have HX1N := Lib.hid hx1n
      have q0' := hx1.cell 0 rfl
      have HG1 := Lib.hid ((HQ0.out.mono (K' := KW2) (fun _ h => h.elim)).trans g1)
      have HRD := Lib.hid hRd
      have HW1 := Lib.hid hW1
      have HGL := Lib.hid hgl
      have HXG := Lib.hid hxg
      have hB1 : Blk w1 wb (X.cells G.s t) := hW1.2.1
      have HB1 := Lib.hid hB1
      have hrl := hRd.1.le
      have hrm := hRd.1.max
      unfold maxLen at hrm
      clear hx1 hx1n g1 hRd hW1 hgl hxg hB1 hGG p0 p1 p2 p3 p4 p5 p6 q0 c5
      have hw1 := HW1.out
      have hlim := hw1.limAt
      obtain ⟨b2, o2, ha2, hb2, hlc2, hlf2, hlo2⟩ := hlim
      rw [ha1] at ha2
      cases ha2
      rw [hGlen] at hlc2 hlf2
      have c14' := HB1.out.cell 14 rfl
      rw [ha1] at c14'
      have hGi : (G.n : Int) ≤ x.lim := by omega
      have hsub : ∀ v, x.lim - (G.n : Int) = v → -9223372036854775808 ≤ v ∧ v ≤ 9223372036854775807 := fun v hv => by omega
      obtain ⟨lv', hlv'⟩ : ∃ lv', x.lim - (G.n : Int) = lv' := ⟨_, rfl⟩
      have hsb := hsub lv' hlv'
      obtain ⟨hsb1, hsb2⟩ := hsb
      clear hsub
      go_wp2_with fail
      go_region
      all_goals
        go_wp2
        refine bodyPost_ret (v := .tuple #[.slice ra G.n rc, .int .i64 G.e]) (by simp [results, Tryd.f53, go_sem]) rfl ?_
        have hsl := HW1.out.setLim HG1.out.bound ha1 lv'
        rw [hGlen] at hsl
        obtain ⟨g2, hW2⟩ := hsl
        refine RdL.of HXG.out (Below.refl _ _).drew (HG1.out.trans (g2.mono (fun j h => .inl (by omega)))) (HRD.out.step g2 (fun _ h => by cases h)) ?_
        show WorkAt _ _ _ _ (pre ++ limDown x G.n :: G.l) _ _ _
        unfold limDown
        rw [hlv']
        exact hW2
  · by_cases h2 : x.op = 2
    · have H2 := Lib.hid h2
      have H3 := Lib.hid h3
      rw [h2] at hwq HQB p0 q0
      clear h2 h3 hop0
      go_enter Tryd.func53, Tryd.ntmps53
      go_wp2_with fail
      refine (HIH.out m wq (by rw [List.append_assoc]; exact HW.out) (by omega) HQ0.out.bound).mono ?_
      rintro e1 w1 ⟨ra, rc, r1, rfl, g1, hRd, hW1⟩
      have hxg : readM (x :: l) s m = { readM l s m with l := countUp x (readM l s m).n :: (readM l s m).l } := by rw [readM, if_neg H3.out, if_pos H2.out]
      rw [List.append_assoc, List.singleton_append] at hW1
      obtain ⟨G, hGG⟩ : ∃ G, readM l s m = G := ⟨_, rfl⟩
      have hgl := readM_good l s m HOK.out (fun y hy => HO.out y (by simp [hy]))
      rw [hGG] at hRd hW1 hxg hgl ⊢
      have hGlen : G.l.length = l.length := hgl.len
      have hGn : G.n ≤ m := hgl.le
      obtain ⟨hx1, hx1n⟩ := HQB.out.free0 g1 HQN.out
      have HX1 := Lib.hid hx1
      have HX1N := Lib.hid hx1n
      have q0' := hx1.cell 0 rfl
      have HG1 := Lib.hid ((HQ0.out.mono (K' := KW2) (fun _ h => h.elim)).trans g1)
      have HRD := Lib.hid hRd
      have HW1 := Lib.hid hW1
      have HGL := Lib.hid hgl
      have HXG := Lib.hid hxg
      have hB1 : Blk w1 wb (X.cells G.s t) := hW1.2.1
      have HB1 := Lib.hid hB1
      have hrl := hRd.1.le
      have hrm := hRd.1.max
      unfold maxLen at hrm
      clear hx1 hx1n g1 hRd hW1 hgl hxg hB1 hGG p0 p1 p2 p3 p4 p5 p6 q0 c5
      obtain ⟨b2, o2, ha2, hb2, hlc2, hlf2, hlo2⟩ := HW1.out.cntAt
      rw [hGlen] at hlc2 hlf2
      have c16' := HB1.out.cell 16 rfl
      rw [ha2] at c16'
      have hx9 := HO.out x (by simp)
      have hx8 := hx9.2.2.2.1
      have hx7 := hx9.2.2.2.2.1
      have hx6 := HOK.out.2.2.1
      have hx5 := HOK.out.2.2.2
      obtain ⟨lv', hlv'⟩ : ∃ lv', x.cnt + (G.n : Int) = lv' := ⟨_, rfl⟩
      have hsb1 : -9223372036854775808 ≤ lv' := by omega
      have hsb2 : lv' ≤ 9223372036854775807 := by omega
      clear hx9 hx8 hx7 hx6 hx5
      go_wp2_with fail
      go_region
      all_goals
        go_wp2
        refine bodyPost_ret (v := .tuple #[.slice ra G.n rc, .int .i64 G.e]) (by simp [results, Tryd.f53, go_sem]) rfl ?_
        have hsl := HW1.out.setCnt HG1.out.bound ha2 lv'
        rw [hGlen] at hsl
        obtain ⟨g2, hW2⟩ := hsl
        refine RdL.of HXG.out (Below.refl _ _).drew (HG1.out.trans (g2.mono (fun j h => .inl (by omega)))) (HRD.out.step g2 (fun _ h => by cases h)) ?_
        show WorkAt _ _ _ _ (pre ++ countUp x G.n :: G.l) _ _ _
        unfold countUp
        rw [hlv']
        exact hW2
    · by_cases h4 : x.op = 4
      · have H2 := Lib.hid h2
        have H3 := Lib.hid h3
        have H4 := Lib.hid h4
        rw [h4] at hwq HQB p0 q0
        clear h2 h3 h4 hop0
        go_enter Tryd.func53, Tryd.ntmps53
        go_wp2_with fail
        refine (HIH.out m wq (by rw [List.append_assoc]; exact HW.out) (by omega) HQ0.out.bound).mono ?_
        rintro e1 w1 ⟨ra, rc, r1, rfl, g1, hRd, hW1⟩
        have hxg : readM (x :: l) s m = teeOf s x (readM l s m) := by rw [readM, if_neg H3.out, if_neg H2.out, if_pos H4.out]
        rw [List.append_assoc, List.singleton_append] at hW1
        obtain ⟨G, hGG⟩ : ∃ G, readM l s m = G := ⟨_, rfl⟩
        have hgl := readM_good l s m HOK.out (fun y hy => HO.out y (by simp [hy]))
        rw [hGG] at hRd hW1 hxg hgl ⊢
        have hGlen : G.l.length = l.length := hgl.len
        have hGn : G.n ≤ m := hgl.le
        obtain ⟨hx1, hx1n⟩ := HQB.out.free0 g1 HQN.out
        have HX1 := Lib.hid hx1
        have HX1N := Lib.hid hx1n
        have q0' := hx1.cell 0 rfl
        have HG1 := Lib.hid ((HQ0.out.mono (K' := KW2) (fun _ h => h.elim)).trans g1)
        have HRD := Lib.hid hRd
        have HW1 := Lib.hid hW1
        have HGL := Lib.hid hgl
        have HXG := Lib.hid hxg
        have hB1 : Blk w1 wb (X.cells G.s t) := hW1.2.1
        have HB1 := Lib.hid hB1
        have hrl := hRd.1.le
        have hrm := hRd.1.max
        unfold maxLen at hrm
        clear hx1 hx1n g1 hRd hW1 hgl hxg hB1 hGG p0 p1 p2 p3 p4 p5 p6 q0 c5
        by_cases hn0 : G.n = 0
        · have hg0 : teeOf s x G = { G with l := x :: G.l } := by unfold teeOf; rw [if_pos hn0]
          have HG0 := Lib.hid hg0
          have hd1 : decide ((G.n : Int) > 0) = false := by simp; omega
          have hd2 : decide (0 < G.n) = false := by simp; omega
          have HN0 := Lib.hid hn0
          clear hg0 hn0
          go_wp2
          refine bodyPost_ret (v := .tuple #[.slice ra G.n rc, .int .i64 G.e]) (by simp [results, Tryd.f53, go_sem]) rfl ?_
          refine RdL.of (G := { G with l := x :: G.l }) (HXG.out.trans HG0.out) ?_ HG1.out HRD.out HW1.out
          first | exact Below.refl _ _ | exact (Below.refl _ _).drew | exact (Below.refl _ _).drew.drew
        · have hd1 : decide ((G.n : Int) > 0) = true := by simp; omega
          have hd2 : decide (0 < G.n) = true := by simp; omega
          have hd3 : (0 : Int) < (G.n : Int) := by omega
          have hx9 := HO.out x (by simp)
          have hx6 := HOK.out.2.2.1
          have hx5 := HOK.out.2.2.2
          obtain ⟨⟨b2, o2, ha2, hb2, hpc2⟩, rdj, bkj, hTj⟩ := HW1.out.sideAt
          rw [hGlen] at hpc2 hTj
          have c15' := HB1.out.cell 15 rfl
          rw [ha2] at c15'
          obtain ⟨said, hsaid⟩ : ∃ said, x.tank.said G.n = said := ⟨_, rfl⟩
          obtain ⟨v, hv⟩ : ∃ v : Int, (if x.tank.full G.n = true then (362 : Int) else 0) = v := ⟨_, rfl⟩
          have hbl : ((s.data.drop s.pos).take G.n).length = G.n := by
            have h1 := HGL.out.bytes
            have h2 := HGL.out.pos
            have h3 := HGL.out.ok.2.2.1
            rw [HGL.out.data] at h3
            rw [List.length_take, List.length_drop]; omega
          have hg65 : G.n ≤ 65535 := by
            have h1 := HGL.out.bytes
            have h2 := HGL.out.pos
            have h3 := HGL.out.ok.2.2.1
            rw [HGL.out.data] at h3
            omega
          have hwr := fun (wx : World) (hb : Below w1.heap.size w1 wx) => writeR (said := said) (v := v) (t := x.tank) (bs := (s.data.drop s.pos).take G.n) (hTj.step ((Step.refl (fun _ => False) HG1.out.bound).calm hb) id) hx9.1 (HRD.out.step ((Step.refl (fun _ => False) HG1.out.bound).calm hb) (fun _ h => by cases h)) (by simp) (by rw [hbl]; have := hx9.2.1; omega) (by have := hx9.2.2.1; omega) ((Step.refl (fun _ => False) HG1.out.bound).calm hb).bound (by rw [hbl]; exact hsaid) (by rw [hbl]; exact hv)
          have HWR := Lib.hid hwr
          have HBL := Lib.hid hbl
          have HN0 := Lib.hid hn0
          have htk := took_le x.tank G.n
          clear hwr hbl hn0 hx9 hx6 hx5
          by_cases hf : x.tank.full G.n = true
          · have hv1 : v = 362 := by rw [← hv, if_pos hf]
            have hs1 : x.tank.took G.n = said := by rw [← hsaid]; unfold Tank.said; rw [if_pos hf]
            have HF := Lib.hid hf
            have HS1 := Lib.hid hs1
            subst hv1
            have hsn : said ≤ G.n := by omega
            have hsc : said ≤ rc := by omega
            have hsi : (said : Int) ≤ rc := by omega
            clear hf hs1 hsaid hv
            go_wp2_with fail
            refine (HWR.out _ (Below.refl _ _)).mono ?_
            rintro e2 w2 ⟨rfl, r2, g2, hT2⟩
            have HG2 := Lib.hid g2
            have HT2 := Lib.hid hT2
            clear g2 hT2
            go_wp2
            refine bodyPost_ret (v := .tuple #[.slice ra said rc, .int .i64 362]) (by simp [results, Tryd.f53, go_sem]) rfl ?_
            have hW2 := HW1.out.setSide (by rw [hGlen]; exact HG2.out) _ (by rw [hGlen]; exact HT2.out)
            have hX : readM (x :: l) s m = { l := { x with tank := x.tank.put ((s.data.drop s.pos).take G.n) } :: G.l, s := G.s, n := said, e := 362 } := by
              rw [HXG.out]; unfold teeOf; rw [if_neg HN0.out, if_pos HF.out, if_pos HF.out, HS1.out]
            refine RdL.of (c := rc) (a := ra) hX (by first | exact Below.refl _ _ | exact (Below.refl _ _).drew | exact (Below.refl _ _).drew.drew) (HG1.out.trans (HG2.out.mono (fun j h => .inr (by omega)))) ?_ hW2
            have h5 := HRD.out.step HG2.out (fun _ h => by cases h)
            refine ⟨?_, h5.2.elim (fun h => .inl (by show said = 0; omega)) .inr⟩
            have h6 := h5.1.take hsn hsc (Nat.le_refl _)
            rw [Nat.mul_one, ← B8_take, List.take_take, Nat.min_eq_left hsn] at h6
            exact h6
          · have hv1 : v = 0 := by rw [← hv, if_neg hf]
            subst hv1
            have HF := Lib.hid hf
            clear hf hsaid hv
            go_wp2_with fail
            refine (HWR.out _ (Below.refl _ _)).mono ?_
            rintro e2 w2 ⟨rfl, r2, g2, hT2⟩
            have HG2 := Lib.hid g2
            have HT2 := Lib.hid hT2
            clear g2 hT2
            go_wp2
            refine bodyPost_ret (v := .tuple #[.slice ra G.n rc, .int .i64 G.e]) (by simp [results, Tryd.f53, go_sem]) rfl ?_
            have hW2 := HW1.out.setSide (by rw [hGlen]; exact HG2.out) _ (by rw [hGlen]; exact HT2.out)
            have hX : readM (x :: l) s m = { l := { x with tank := x.tank.put ((s.data.drop s.pos).take G.n) } :: G.l, s := G.s, n := G.n, e := G.e } := by
              rw [HXG.out]; unfold teeOf; rw [if_neg HN0.out, if_neg HF.out, if_neg HF.out]
            exact RdL.of hX (by first | exact Below.refl _ _ | exact (Below.refl _ _).drew | exact (Below.refl _ _).drew.drew) (HG1.out.trans (HG2.out.mono (fun j h => .inr (by omega)))) (HRD.out.step HG2.out (fun _ h => by cases h)) hW2
      · have h2' : (x.op == 2) = false := by simpa using h2
        have h3' : (x.op == 3) = false := by simpa using h3
        have h4' : (x.op == 4) = false := by simpa using h4
        have H2 := Lib.hid h2
        have H3 := Lib.hid h3
        have H4 := Lib.hid h4
        clear h2 h3 h4 hop0
        go_enter Tryd.func53, Tryd.ntmps53
        go_wp2_with fail
        refine (HIH.out m wq (by rw [List.append_assoc]; exact HW.out) (by omega) HQ0.out.bound).mono ?_
        rintro e1 w1 ⟨ra, rc, r1, rfl, g1, hRd, hW1⟩
        have hxg : readM (x :: l) s m = { readM l s m with l := x :: (readM l s m).l } := by rw [readM, if_neg H3.out, if_neg H2.out, if_neg H4.out]
        rw [List.append_assoc, List.singleton_append] at hW1
        obtain ⟨G, hGG⟩ : ∃ G, readM l s m = G := ⟨_, rfl⟩
        have hgl := readM_good l s m HOK.out (fun y hy => HO.out y (by simp [hy]))
        rw [hGG] at hRd hW1 hxg hgl ⊢
        have hGlen : G.l.length = l.length := hgl.len
        have hGn : G.n ≤ m := hgl.le
        obtain ⟨hx1, hx1n⟩ := HQB.out.free0 g1 HQN.out
        have HX1 := Lib.hid hx1
        have HX1N := Lib.hid hx1n
        have q0' := hx1.cell 0 rfl
        have HG1 := Lib.hid ((HQ0.out.mono (K' := KW2) (fun _ h => h.elim)).trans g1)
        have HRD := Lib.hid hRd
        have HW1 := Lib.hid hW1
        have HGL := Lib.hid hgl
        have HXG := Lib.hid hxg
        have hB1 : Blk w1 wb (X.cells G.s t) := hW1.2.1
        have HB1 := Lib.hid hB1
        have hrl := hRd.1.le
        have hrm := hRd.1.max
        unfold maxLen at hrm
        clear hx1 hx1n g1 hRd hW1 hgl hxg hB1 hGG p0 p1 p2 p3 p4 p5 p6 q0 c5
        go_wp2
        refine bodyPost_ret (v := .tuple #[.slice ra G.n rc, .int .i64 G.e]) (by simp [results, Tryd.f53, go_sem]) rfl ?_
        exact RdL.of HXG.out (by first | exact Below.refl _ _ | exact (Below.refl _ _).drew | exact (Below.refl _ _).drew.drew) HG1.out HRD.out HW1.out

theorem workRead {wb : Nat} {X : Wk} {k : List Int} {t : Tank} : ∀ (l : List Wr) (pre : List Wr) (m lv : Nat) (s : Sc) (w : World) (r : Own), lv = l.length → lv ≤ 100 → WorkAt w r wb X (pre ++ l) s k t → s.ok → Oks l s → s.k < 10000000000 → m ≤ 1000000 → Bnd w r →
    Calls Tryd.prog 53 #[.pointer (some ⟨wb, 0, none⟩), .int .i64 (lv : Nat), .int .i64 m] w (RdL wb X pre l s k t m w r)
  | [], pre, m, lv, s, w, r, hlv, _, hW, hok, _, hk, hm, hbnd => by
    obtain rfl : lv = 0 := hlv
    have hW' := hW
    obtain ⟨hwb, hB, hd, hZ, _⟩ := hW'
    refine (workRead0 hwb hbnd hB hd hZ hok (by omega) hm).mono ?_
    rintro e w' ⟨a, n, c, rfl, rfl, g, hR, hB2⟩
    exact ⟨a, c, r, rfl, g.mono (fun j h => .inl (by omega)), hR, hW.src g hB2 rfl rfl⟩
  | x :: l, pre, m, lv, s, w, r, hlv, hl9, hW, hok, ho, hk, hm, hbnd =>
    workReadStep hlv hl9 hW hok ho hk hm hbnd (fun m' w' hW' hm' hb' => workRead l (pre ++ [x]) m' l.length s w' r rfl (by simp at hlv; omega) hW' hok (fun y hy => ho y (by simp [hy])) hk hm' hb')

/-- .. of the whole source -/
theorem readR {wb m : Nat} {X : Wk} {l : List Wr} {s : Sc} {k : List Int} {t : Tank} {w : World} {r : Own} (hW : WorkAt w r wb X l s k t) (hok : s.ok) (ho : Oks l s) (hk : s.k < 10000000000) (hm : m ≤ 1000000) (hl : l.length ≤ 100) (hbnd : Bnd w r) :
    Calls Tryd.prog 43 #[.pointer (some ⟨wb, 0, none⟩), .int .i64 m] w (RdL wb X [] l s k t m w r) := by
  have hlen := hW.len
  obtain ⟨_, hB, _⟩ := id hW
  have c5 := hB.cell 5 rfl
  have hrd := workRead l [] m X.pn s w r hlen.symm (by omega) hW hok ho hk hm hbnd
  have HRD := Lib.hid hrd
  clear hrd hW hok ho hB hbnd hlen
  go_enter Tryd.func43, Tryd.ntmps43
  go_wp2_with fail
  refine HRD.out.mono ?_
  rintro e w' ⟨a, c, r', rfl, h1, h2, h3⟩
  have H1 := Lib.hid h1
  have H2 := Lib.hid h2
  have H3 := Lib.hid h3
  clear h1 h2 h3
  go_wp2
  refine bodyPost_ret (v := .tuple #[.slice a (readM l s m).n c, .int .i64 (readM l s m).e]) (by simp [results, Tryd.f43, go_sem]) rfl ?_
  exact RdL.of rfl (by first | exact Below.refl _ _ | exact (Below.refl _ _).drew | exact (Below.refl _ _).drew.drew) H1.out H2.out H3.out
end Go.Proofs.YtigfgdefgnahpaaDoor
