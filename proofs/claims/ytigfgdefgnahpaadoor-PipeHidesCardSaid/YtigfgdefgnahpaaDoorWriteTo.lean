/-
  The walk of the source's own writing (the code's writeTo). Not a statement of the seat.
-/
import Derived.Test.YtigfgdefgnahpaaDoorBuffered
import Derived.Deep.Cut
namespace Go.Proofs.YtigfgdefgnahpaaDoor
open Go.RowKit

/-- the source's own writing, as a plain function; the wrappers' counts come behind -/
def Sc.skip (s : Sc) (n : Nat) : Sc := { s with pos := s.pos + n }
def wrote (c : Cp) : Nat := if c.s.left = 0 then 0 else min (c.t.said c.s.left) c.s.left
def writesE (c : Cp) : Int :=
  if c.s.left = 0 then (if c.s.broken then 363 else 0)
  else if c.s.left < c.t.said c.s.left then 361
  else if c.t.full c.s.left then 362
  else if c.t.said c.s.left < c.s.left then 360
  else if c.s.broken then 363 else 0
def writesC (c : Cp) : Cp :=
  if c.s.left = 0 then c else { c with s := c.s.skip (wrote c), t := c.t.put (c.s.data.drop c.s.pos), k := c.k.map (addK (c.t.said c.s.left)) }

theorem neE (eb : Nat) {e : Int} (h : e = -1 ∨ e = 363) (w : World) : (binOp .neq 68 (errV eb e) (EOFv eb)).run Tryd.prog w = .ok (.bool (!(e == -1))) w := by
  have h1 := eqE eb (e := e) (by rcases h with h | h <;> simp [h]) w
  have key : ∀ (q : Result Bool) (y : Bool), (q.andThen fun a w' => Result.ok (Value.bool a) w') = .ok (.bool y) w → (q.andThen fun a w' => Result.ok (Value.bool !a) w') = .ok (.bool !y) w := by
    intro q y hq
    cases q <;> simp_all [Result.andThen]
  rcases h with rfl | rfl
  · simp only [errV, EOFv, binOp] at h1 ⊢
    simp at h1 ⊢
    exact key _ true h1
  · simp only [errV, EOFv, binOp] at h1 ⊢
    simp at h1 ⊢
    exact key _ false h1
theorem gdE2 (eb : Nat) {e : Int} (h : e = -1 ∨ e = 363) (a b : Operand) (w : World) : (eqGuard .neq 68 a b (errV eb e) (EOFv eb)).run Tryd.prog w = .ok () w := by
  rcases h with rfl | rfl <;> rfl

/-- what the source's own writing may turn -/
def KO (k : Nat) : Prop := k = 0 ∨ 40 ≤ k
def WroteToW (c : Cp) (fs : Nat) (wv : Value) (rd : Sk) (bk : Int) (w0 : World) (r0 : Own) (w' : World) : Prop :=
  ∃ r', Step KO w0 r0 w' r' ∧ SrcAt w' r' fs true (writesC c).s ∧ SinkAt w' r' rd bk wv (writesC c).k (writesC c).t

set_option maxRecDepth 100000 in
set_option maxHeartbeats 4000000 in
theorem writeToN {eb : Nat} {rd : Sk} {bk : Int} {fs : Nat} {wv : Value} {c : Cp} {p : Nat} {w : World} {r : Own} {tot : Nat} {ev : Value}
    (hS0 : SrcAt w r fs true c.s) (hK0 : SinkAt w r rd bk wv c.k c.t) (hok : CpOk p c) (hpos : c.t.has.length ≤ c.s.pos) (hE0 : EOFat w r eb) (hbnd0 : Bnd w r) (htot : wrote c = tot) (hev : errV eb (writesE c) = ev) :
    Calls Tryd.prog 87 #[.agg #[.pointer (some ⟨fs, 0, none⟩)], wv] w (PostV (.tuple #[.int .i64 tot, ev]) (WroteToW c fs wv rd bk w r)) := by
  obtain ⟨K1, wv0, hN⟩ := sinkMeth hK0
  have hal := sinkAlive hK0
  obtain ⟨T1, x1, hwvE, hn1, hcf1⟩ := id hN
  have hna := hal T1 x1 hwvE
  subst hwvE
  obtain ⟨eo, heo⟩ : ∃ eo, EOFv eb = eo := ⟨_, rfl⟩
  obtain ⟨i0, u8i, _, u8s, _⟩ := u8Info
  obtain ⟨wq, hwq⟩ : ∃ wq, w.alloc (.cells #[.pointer (some ⟨fs, 0, none⟩)] 104) = wq := ⟨_, rfl⟩
  have hq1 : Step (fun _ => False) w r wq r := by rw [← hwq]; exact (Step.refl _ hbnd0).alloc _
  have hqs : wq.heap.size = w.heap.size + 1 := by rw [← hwq]; simp
  have hqc : wq.cell? ⟨w.heap.size, 0, none⟩ = some (.pointer (some ⟨fs, 0, none⟩)) := by rw [← hwq]; simp
  have hS1 := hS0.step hq1 id id
  have hK1 := hK0.step hq1 (fun _ _ _ h => h)
  have hE1 := hE0.step hq1
  have cE := hE1.2.2
  rw [heo] at cE
  obtain ⟨dv, sa, sn, sc, wv', la, ln, lc, hb, hB, hZ, hL⟩ := id hS1
  have c3 := hB.cell 3 rfl
  have c6 := hB.cell 6 rfl
  have f6 := hB.free 6 (by simp)
  have hln : c.s.left = ln := by have := hL.1.len; rw [B8_length, List.length_drop] at this; unfold Sc.left; omega
  have hlc := hL.1.le
  have hlm := hL.1.max
  unfold maxLen at hlm
  have hp1 := hok.s.2.2.1
  have hp2 := hok.s.2.2.2
  have hl65 : ln ≤ 65535 := by rw [← hln]; unfold Sc.left; omega
  have hbl : w.heap.size < wq.heap.size := by omega
  have hbx : r w.heap.size = none := hbnd0 _ (Nat.le_refl _)
  have hbf : r fs = some 0 := hb
  have herr : (if c.s.broken then (363 : Int) else -1) = -1 ∨ (if c.s.broken then (363 : Int) else -1) = 363 := by cases c.s.broken <;> simp
  obtain ⟨ev1, hev1⟩ : ∃ v, errV eb (if c.s.broken then 363 else -1) = v := ⟨_, rfl⟩
  have q1 : ∀ w, (binOp .neq 68 ev1 eo).run Tryd.prog w = .ok (.bool c.s.broken) w := fun w => by
    rw [← hev1, ← heo, neE eb herr w]; cases c.s.broken <;> rfl
  have gq1 : ∀ a b w, (eqGuard .neq 68 a b ev1 eo).run Tryd.prog w = .ok () w := fun a b w => by rw [← hev1, ← heo]; exact gdE2 eb herr a b w
  have Q1 := Lib.hid q1
  have HEV1 := Lib.hid hev1
  have HN := Lib.hid hN
  have HE0 := Lib.hid hE0
  have HEO := Lib.hid heo
  have HTOT := Lib.hid htot
  have HEV := Lib.hid hev
  have HQ1 := Lib.hid hq1
  have HQC := Lib.hid hqc
  have HBX := Lib.hid hbx
  have HBL := Lib.hid hbl
  have HBF := Lib.hid hbf
  have HS1 := Lib.hid hS1
  have HK1 := Lib.hid hK1
  have HOK := Lib.hid hok
  have HB := Lib.hid hB
  have HZ := Lib.hid hZ
  have HL := Lib.hid hL
  have HLN := Lib.hid hln
  have hth : c.t.has.length + ln ≤ 1000000 := by omega
  have HTH := Lib.hid hth
  clear q1 hev1 hN hE0 heo htot hev hq1 hbx hbl hbf hS1 hK1 hok hB hZ hL hS0 hK0 hE1 hal hln hth herr hqs hpos hp1 hp2
  by_cases h0 : ln = 0
  · subst h0
    have HC0 := Lib.hid (show writesC c = c by unfold writesC; rw [if_pos HLN.out])
    go_enter Tryd.func87, Tryd.ntmps87
    go_wp2_with fail
    clear hwq
    have e3 := HB.out.cell 3 rfl
    refine (endN e3 (HE0.out.step HQ1.out).2.2 HEV1.out).mono ?_
    rintro e wqe ⟨rfl, hb2⟩
    have hd0 : Step (fun _ => False) wq r wqe r := (Step.refl _ (HQ1.out.mono (K' := KO) (fun _ h => h.elim)).bound).calm hb2
    have cE9 := (EOFat.step (HE0.out.step HQ1.out) hd0).2.2
    rw [HEO.out] at cE9
    have HD0 := Lib.hid hd0
    clear hb2 e3 hd0
    cases hbk : c.s.broken
    · have q1' : ∀ w, (binOp .neq 68 ev1 eo).run Tryd.prog w = .ok (.bool false) w := fun w => by rw [Q1.out, hbk]
      have hv : ev = .nilIface := by rw [← HEV.out]; unfold writesE; rw [if_pos HLN.out]; rw [hbk]; rfl
      have ht : tot = 0 := by rw [← HTOT.out]; unfold wrote; rw [if_pos HLN.out]
      subst hv
      subst ht
      clear hbk
      go_wp2
      refine bodyPost_ret (v := .tuple #[.int .i64 0, .nilIface]) (by simp [results, Tryd.f87, go_sem]) rfl ?_
      exact ⟨rfl, r, (HQ1.out.mono (K' := KO) (fun _ h => h.elim)).trans (HD0.out.mono (fun _ h => h.elim)), by rw [HC0.out]; exact HS1.out.step HD0.out id id, by rw [HC0.out]; exact HK1.out.step HD0.out (fun _ _ _ h => h)⟩
    · have q1' : ∀ w, (binOp .neq 68 ev1 eo).run Tryd.prog w = .ok (.bool true) w := fun w => by rw [Q1.out, hbk]
      have hv : ev = ev1 := by rw [← HEV.out, ← HEV1.out]; unfold writesE; rw [if_pos HLN.out]; rw [hbk]; rfl
      have ht : tot = 0 := by rw [← HTOT.out]; unfold wrote; rw [if_pos HLN.out]
      subst hv
      subst ht
      clear hbk
      go_wp2
      refine bodyPost_ret (v := .tuple #[.int .i64 0, ev]) (by simp [results, Tryd.f87, go_sem]) rfl ?_
      exact ⟨rfl, r, (HQ1.out.mono (K' := KO) (fun _ h => h.elim)).trans (HD0.out.mono (fun _ h => h.elim)), by rw [HC0.out]; exact HS1.out.step HD0.out id id, by rw [HC0.out]; exact HK1.out.step HD0.out (fun _ _ _ h => h)⟩
  · have hl0 : decide ((0 : Int) < (ln : Int)) = true := by simp; omega
    have hne0 : ¬ c.s.left = 0 := by rw [HLN.out]; exact h0
    have hbytes : (c.s.data.drop c.s.pos).length = ln := by rw [← HLN.out, List.length_drop]; rfl
    have hsdle : c.t.said ln ≤ ln + 1 := by
      have := took_le c.t ln
      unfold Tank.said
      split
      · omega
      · split <;> omega
    have d0 : Step (fun _ => False) wq r wq.drew r := (Step.refl _ HQ1.out.bound).drew
    have hL1 := HL.out.step d0 (fun _ _ h => h)
    have hwr := sinkWrite (eb := eb) (o := some 30) (bs := c.s.data.drop c.s.pos) HOK.out.t (fun k hk => by cases hk; omega) (by rw [hbytes]; exact HTH.out) (by have := HOK.out.tk; have := HOK.out.kk; omega) c.k (HK1.out.step d0 (fun _ _ _ h => h)) hL1 (fun x hx => ⟨(HOK.out.k x hx).1, by have := (HOK.out.k x hx).2; have := HOK.out.s.2.2.1; have := HOK.out.s.2.2.2; omega⟩) d0.bound HN.out
    rw [hbytes] at hwr
    obtain ⟨sd, hsd⟩ : ∃ sd, c.t.said ln = sd := ⟨_, rfl⟩
    obtain ⟨fv, hfv⟩ : ∃ v, errV eb (if c.t.full ln then 362 else 0) = v := ⟨_, rfl⟩
    rw [hsd, hfv] at hwr
    rw [hsd] at hsdle
    obtain ⟨n, hnn⟩ : ∃ n, min sd ln = n := ⟨_, rfl⟩
    have hwn : wrote c = n := by unfold wrote; rw [if_neg hne0, HLN.out, hsd, hnn]
    have HWC := Lib.hid (show writesC c = { c with s := c.s.skip n, t := c.t.put (c.s.data.drop c.s.pos), k := c.k.map (addK sd) } by unfold writesC; rw [if_neg hne0, hwn, HLN.out, hsd])
    have HSD := Lib.hid hsd
    have HFV := Lib.hid hfv
    have HWR := Lib.hid hwr
    have HWN := Lib.hid hwn
    have HNE0 := Lib.hid hne0
    have HBY := Lib.hid hbytes
    have hnl : n ≤ ln := by omega
    have hmx : (if (sd : Int) < 0 then (0 : Int) else sd) = sd := by rw [if_neg (by omega)]
    have hmx2 : (if (0 : Int) < sd then (sd : Int) else 0) = sd := by split <;> omega
    have hmn : (if (sd : Int) < ln then (sd : Int) else ln) = n := by split <;> omega
    have hmn2 : (if (ln : Int) < sd then (ln : Int) else sd) = n := by split <;> omega
    have hmn3 : (if ln < sd then (ln : Int) else sd) = n := by split <;> omega
    have hmn4 : (if sd < ln then (sd : Int) else ln) = n := by split <;> omega
    have ht : tot = n := by rw [← HTOT.out, hwn]
    subst ht
    clear hwr d0 hsd hfv hL1 hwn hne0 hbytes
    go_enter Tryd.func87, Tryd.ntmps87
    go_upto_region 4 with (fail)
    clear hwq
    go_cut [8, 9] from 11 (fun s8 s9 wx => s8 = .int .i64 (sd : Int) ∧ fv = s9 ∧ RowKit.Hid (SunkW rd bk (.iface T1 x1) c.k c.t (c.s.data.drop c.s.pos) wq.drew r wx))
    case first =>
      go_region_law (first | (go_simp; refine (HWR.out).mono ?_; rintro e2 w3 ⟨rfl, hSk⟩; have HSK := Lib.hid hSk; clear hSk))
      all_goals
        go_wp2_with fail
        go_meet
        case rel => exact ⟨rfl, rfl, HSK⟩
    case rest =>
    obtain ⟨rfl, rfl, HSK⟩ := hcut
    rename World => w3
    obtain ⟨r3, g4, hS3⟩ := HSK.out
    have hg5 : Step (fun k => 40 ≤ k) wq r w3 r3 := ((Step.refl _ HQ1.out.bound).drew).trans (g4.mono (fun k hk => hk.1))
    have hS3b := HS1.out.step hg5 (by omega) (by omega)
    have hE3 := (HE0.out.step HQ1.out).step hg5
    have cX3 : w3.cell? ⟨w.heap.size, 0, none⟩ = some (.pointer (some ⟨fs, 0, none⟩)) := by
      rw [World.cell?_of_block (a := ⟨w.heap.size, 0, none⟩) (hg5.keep _ HBL.out (fun k hk => by rw [HBX.out] at hk; cases hk))]; exact HQC.out
    have hbf3 := hg5.oldK HB.out.lt hb
    have hB3 := HB.out.step hg5 hb (by omega)
    have hZ3 := HZ.out.step hg5 (fun _ h => by cases h)
    have hL3 := HL.out.step hg5 (fun k h h2 => by cases h; omega)
    have c63 := hB3.cell 6 rfl
    have f63 := hB3.free 6 (by simp)
    have HG5 := Lib.hid hg5
    have HE3 := Lib.hid hE3
    have HBF3 := Lib.hid hbf3
    have HB3 := Lib.hid hB3
    have HZ3 := Lib.hid hZ3
    have HL3 := Lib.hid hL3
    have HS3 := Lib.hid hS3
    have hsl := run_slice_from (P := Tryd.prog) 78 5 under78 u8i u8s la ln lc tot hnl
    have hcloseg : ∀ wd, Below w3.heap.size w3 wd → (Step KO w r (wd.setCell ⟨fs, 6, none⟩ (.slice (slAt la tot lc 1) (ln - tot) (lc - tot))) r3 ∧ SrcAt (wd.setCell ⟨fs, 6, none⟩ (.slice (slAt la tot lc 1) (ln - tot) (lc - tot))) r3 fs true (c.s.skip tot) ∧
        SinkAt (wd.setCell ⟨fs, 6, none⟩ (.slice (slAt la tot lc 1) (ln - tot) (lc - tot))) r3 rd bk (.iface T1 x1) (c.k.map (addK sd)) (c.t.put (c.s.data.drop c.s.pos)) ∧ EOFat (wd.setCell ⟨fs, 6, none⟩ (.slice (slAt la tot lc 1) (ln - tot) (lc - tot))) r3 eb ∧
        (wd.setCell ⟨fs, 6, none⟩ (.slice (slAt la tot lc 1) (ln - tot) (lc - tot))).cell? ⟨fs, 3, none⟩ = some (.bool c.s.broken) ∧
        (wd.setCell ⟨fs, 6, none⟩ (.slice (slAt la tot lc 1) (ln - tot) (lc - tot))).cell? ⟨w.heap.size, 0, none⟩ = some (.pointer (some ⟨fs, 0, none⟩))) := by
      intro wd hwd
      have k0 : Step (fun k => k = 0) w3 r3 (wd.setCell ⟨fs, 6, none⟩ (.slice (slAt la tot lc 1) (ln - tot) (lc - tot))) r3 := ((Step.refl _ HG5.out.bound).calm hwd).put _ (fun _ => ⟨0, HBF3.out, rfl⟩)
      have k1 : Step KO w r (wd.setCell ⟨fs, 6, none⟩ (.slice (slAt la tot lc 1) (ln - tot) (lc - tot))) r3 := ((HQ1.out.mono (fun _ h => h.elim)).trans (HG5.out.mono (fun k hk => .inr hk))).trans (k0.mono (fun k hk => by subst hk; exact .inl rfl))
      have hBn := (HB3.out.below hwd).set (j := 6) (.slice (slAt la tot lc 1) (ln - tot) (lc - tot))
      have hLn := HL3.out.step k0 (fun k h h2 => by cases h; omega)
      have hSK := HS3.out.step k0 (fun k h1 _ h2 => by omega)
      rw [HBY.out, HSD.out] at hSK
      refine ⟨k1, ⟨dv, sa, sn, sc, wv', slAt la tot lc 1, ln - tot, lc - tot, HBF3.out, hBn, HZ3.out.step k0 (fun _ h => by cases h), ?_, .inr (fun x hx => ?_)⟩, hSK, HE3.out.step k0, hBn.cell 3 rfl, ?_⟩
      · have := hLn.1.from hnl
        show Rd _ _ _ _ _ (B8 (c.s.data.drop (c.s.pos + tot)))
        rw [← List.drop_drop, B8_drop]
        simpa using this
      · rcases hLn.2 with h2 | h2
        · omega
        · exact h2 x (by rw [blockOf_slAt] at hx; exact hx)
      · rw [World.cell?_of_block (a := ⟨w.heap.size, 0, none⟩) (k0.keep _ (Nat.lt_of_lt_of_le HBL.out HG5.out.size) (fun k hk => by rw [HG5.out.old _ HBL.out, HBX.out] at hk; cases hk))]
        rw [World.cell?_of_block (a := ⟨w.heap.size, 0, none⟩) (HG5.out.keep _ HBL.out (fun k hk => by rw [HBX.out] at hk; cases hk))]
        exact HQC.out
    have HCLG := Lib.hid hcloseg
    have hcloseb : ∀ wd, Below w3.heap.size w3 wd → wd.cell? ⟨fs, 6, none⟩ = some (.slice la ln lc) ∧ wd.frozen? ⟨fs, 6, none⟩ = false ∧ wd.cell? ⟨w.heap.size, 0, none⟩ = some (.pointer (some ⟨fs, 0, none⟩)) := fun wd hwd =>
      ⟨(HB3.out.below hwd).cell 6 rfl, (HB3.out.below hwd).free 6 (by simp), by
        rw [World.cell?_of_block (a := ⟨w.heap.size, 0, none⟩) (hwd.block _ (Nat.lt_of_lt_of_le HBL.out HG5.out.size))]; exact cX3⟩
    have HCB := Lib.hid hcloseb
    clear g4 hg5 hS3b hE3 hbf3 hB3 hZ3 hL3 hS3 HSK HWR hcloseg hcloseb c6 f6 c3 cE
    go_upto_region 6 with (fail)
    go_cut [6] from 11 (fun s6 wx => s6 = .int .i64 (tot : Int) ∧ ∃ wd, Below w3.heap.size w3 wd ∧ wx = wd.setCell ⟨fs, 6, none⟩ (.slice (slAt la tot lc 1) (ln - tot) (lc - tot)))
    case first =>
      go_region
      all_goals
        go_wp2_with fail
        go_meet
        case rel => exact ⟨rfl, w3.drew, (Below.refl _ _).drew, rfl⟩
    case rest =>
    obtain ⟨rfl, wd, hwd, rfl⟩ := hcut
    obtain ⟨k1, k2, k3, k4, k5, k6⟩ := HCLG.out wd hwd
    generalize wd.setCell ⟨fs, 6, none⟩ (.slice (slAt la tot lc 1) (ln - tot) (lc - tot)) = w5 at k1 k2 k3 k4 k5 k6 ⊢
    have SP : (writesC c).s = c.s.skip tot ∧ (writesC c).k = c.k.map (addK sd) ∧ (writesC c).t = c.t.put (c.s.data.drop c.s.pos) := by rw [HWC.out]; exact ⟨rfl, rfl, rfl⟩
    have HSP := Lib.hid SP
    have K1' := Lib.hid k1
    have K2' := Lib.hid k2
    have K3' := Lib.hid k3
    have K4' := Lib.hid k4
    have K5' := Lib.hid k5
    clear k1 k2 k3 k4 k5 SP HCLG HCB cX3 hsl
    have cE5 := K4'.out.2.2
    rw [HEO.out] at cE5
    by_cases h1 : ln < sd
    · have hd1 : decide ((ln : Int) < (sd : Int)) = true := by simp; omega
      have hd1' : decide (ln < sd) = true := by simp; omega
      have hv : ev = .iface 33 (.int .i64 361) := by rw [← HEV.out]; unfold writesE; rw [if_neg HNE0.out, HLN.out, HSD.out, if_pos h1]; rfl
      subst hv
      clear h1
      go_wp2
      refine bodyPost_ret (v := .tuple #[.int .i64 (tot : Int), .iface 33 (.int .i64 361)]) (by simp [results, Tryd.f87, go_sem]) rfl ?_
      exact ⟨rfl, r3, K1'.out, by rw [HSP.out.1]; exact K2'.out, by rw [HSP.out.2.1, HSP.out.2.2]; exact K3'.out⟩
    · have hd1 : decide ((ln : Int) < (sd : Int)) = false := by simp; omega
      have hd1' : decide (ln < sd) = false := by simp; omega
      by_cases h2 : c.t.full ln = true
      · have hfv2 : fv = .iface 33 (.int .i64 362) := by rw [← HFV.out, h2]; rfl
        subst hfv2
        have hv : ev = .iface 33 (.int .i64 362) := by rw [← HEV.out]; unfold writesE; rw [if_neg HNE0.out, HLN.out, HSD.out, if_neg h1, if_pos h2]; rfl
        subst hv
        clear h1 h2
        go_wp2
        refine bodyPost_ret (v := .tuple #[.int .i64 (tot : Int), .iface 33 (.int .i64 362)]) (by simp [results, Tryd.f87, go_sem]) rfl ?_
        exact ⟨rfl, r3, K1'.out, by rw [HSP.out.1]; exact K2'.out, by rw [HSP.out.2.1, HSP.out.2.2]; exact K3'.out⟩
      · have hfv2 : fv = .nilIface := by rw [← HFV.out, if_neg h2]; rfl
        subst hfv2
        by_cases h3 : sd < ln
        · have hd3 : decide ((sd : Int) < (ln : Int)) = true := by simp; omega
          have hd3' : decide (sd < ln) = true := by simp; omega
          have hv : ev = .iface 33 (.int .i64 360) := by rw [← HEV.out]; unfold writesE; rw [if_neg HNE0.out, HLN.out, HSD.out, if_neg h1, if_neg h2, if_pos h3]; rfl
          subst hv
          clear h1 h2 h3
          go_wp2
          refine bodyPost_ret (v := .tuple #[.int .i64 (tot : Int), .iface 33 (.int .i64 360)]) (by simp [results, Tryd.f87, go_sem]) rfl ?_
          exact ⟨rfl, r3, K1'.out, by rw [HSP.out.1]; exact K2'.out, by rw [HSP.out.2.1, HSP.out.2.2]; exact K3'.out⟩
        · have hd3 : decide ((sd : Int) < (ln : Int)) = false := by simp; omega
          have hd3' : decide (sd < ln) = false := by simp; omega
          have HEP := Lib.hid (show writesE c = if c.s.broken then 363 else 0 by unfold writesE; rw [if_neg HNE0.out, HLN.out, HSD.out, if_neg h1, if_neg h2, if_neg h3])
          clear h1 h2 h3
          go_wp2_with fail
          have e3 := K5'.out
          refine (endN e3 K4'.out.2.2 HEV1.out).mono ?_
          rintro e w5e ⟨rfl, hb2⟩
          have hd0 : Step (fun _ => False) w5 r3 w5e r3 := (Step.refl _ K1'.out.bound).calm hb2
          have cE9 := (EOFat.step K4'.out hd0).2.2
          rw [HEO.out] at cE9
          have HD0 := Lib.hid hd0
          clear hb2 e3 hd0
          cases hbk : c.s.broken
          · have q1' : ∀ w, (binOp .neq 68 ev1 eo).run Tryd.prog w = .ok (.bool false) w := fun w => by rw [Q1.out, hbk]
            have hv : ev = .nilIface := by rw [← HEV.out]; rw [HEP.out, hbk]; rfl
            subst hv
            clear hbk
            go_wp2
            refine bodyPost_ret (v := .tuple #[.int .i64 (tot : Int), .nilIface]) (by simp [results, Tryd.f87, go_sem]) rfl ?_
            exact ⟨rfl, r3, K1'.out.trans (HD0.out.mono (fun _ h => h.elim)), by rw [HSP.out.1]; exact K2'.out.step HD0.out id id, by rw [HSP.out.2.1, HSP.out.2.2]; exact K3'.out.step HD0.out (fun _ _ _ h => h)⟩
          · have q1' : ∀ w, (binOp .neq 68 ev1 eo).run Tryd.prog w = .ok (.bool true) w := fun w => by rw [Q1.out, hbk]
            have hv : ev = ev1 := by rw [← HEV.out, ← HEV1.out]; rw [HEP.out, hbk]; rfl
            subst hv
            clear hbk
            go_wp2
            refine bodyPost_ret (v := .tuple #[.int .i64 (tot : Int), ev]) (by simp [results, Tryd.f87, go_sem]) rfl ?_
            exact ⟨rfl, r3, K1'.out.trans (HD0.out.mono (fun _ h => h.elim)), by rw [HSP.out.1]; exact K2'.out.step HD0.out id id, by rw [HSP.out.2.1, HSP.out.2.2]; exact K3'.out.step HD0.out (fun _ _ _ h => h)⟩
end Go.Proofs.YtigfgdefgnahpaaDoor
