/-
  The walk of Work's writes (the document's). Not a statement of the seat.
-/
import Derived.Test.YtigfgdefgnahpaaDoorWorkReads
import Derived.Test.YtigfgdefgnahpaaDoorRun
namespace Go.Proofs.YtigfgdefgnahpaaDoor
open Go.RowKit

/-- the first i of the counts are n more -/
def addI (n i : Nat) (cs : List Int) : List Int := (cs.take i).map (· + (n : Int)) ++ cs.drop i
theorem addI_len (n i : Nat) (cs : List Int) : (addI n i cs).length = cs.length := by
  unfold addI; rw [List.length_append, List.length_map, List.length_take, List.length_drop]; omega
theorem addI_at {n i : Nat} {cs : List Int} (h : i < cs.length) : (addI n i cs)[i]? = cs[i]? := by
  unfold addI
  have h1 : ((cs.take i).map (· + (n : Int))).length = i := by simp; omega
  rw [List.getElem?_append_right (by omega), h1, Nat.sub_self, List.getElem?_drop, Nat.add_zero]
theorem addI_succ {n i : Nat} {cs : List Int} {c : Int} (hc : cs[i]? = some c) : addI n (i + 1) cs = (addI n i cs).set i (c + n) := by
  have hl := (List.getElem?_eq_some_iff.1 hc).1
  have hv := (List.getElem?_eq_some_iff.1 hc).2
  have h1 : ((cs.take i).map (· + (n : Int))).length = i := by simp; omega
  unfold addI
  rw [List.take_add_one, hc, Option.toList_some, List.map_append, List.drop_eq_getElem_cons hl, List.set_append_right _ _ (by omega), h1, Nat.sub_self, List.set_cons_zero, List.append_assoc]
  rfl
theorem addI_done {n : Nat} {cs : List Int} : addI n cs.length cs = cs.map (· + (n : Int)) := by
  unfold addI
  rw [List.take_of_length_le (Nat.le_refl _), List.drop_of_length_le (Nat.le_refl _), List.append_nil]

/-- other counts -/
theorem WorkAt.counts {wb : Nat} {x : Wk} {l l' : List Wr} {s : Sc} {k : List Int} {t : Tank} {w w' : World} {r : Own} (h : WorkAt w r wb x l s k t) (g : Step (· = 2) w r w' r) (h1 : l'.map Wr.lim = l.map Wr.lim) (h2 : l'.map Wr.tank = l.map Wr.tank) (h3 : l'.map Wr.op = l.map Wr.op)
    (hrow : Row 0 w' 1 x.a3 x.pn x.c3 (I3 (l'.reverse.map Wr.cnt))) : WorkAt w' r wb x l' s k t := by
  obtain ⟨hwb, hB, hd, hZ, hP, hQ, hR1, hR2, hR3, hR4, hT, hS, hO⟩ := h
  refine ⟨hwb, hB.step g hwb (by omega), hd, hZ.step g (fun _ h => by cases h), hP.step g, hQ.step g, ?_, hR2.step g (by omega), ⟨hrow, hR3.2⟩, hR4.step g (by omega), hT.step g (by omega), fun j tk hj => ?_, ?_⟩
  · rw [List.map_reverse, h1, ← List.map_reverse]
    exact hR1.step g (by omega)
  · rw [List.map_reverse, h2, ← List.map_reverse] at hj
    obtain ⟨rdj, bkj, hTj⟩ := hS j tk hj
    exact ⟨rdj, bkj, hTj.step g (by omega)⟩
  · rw [List.map_reverse, h3, ← List.map_reverse]
    exact hO

set_option maxRecDepth 100000 in
set_option maxHeartbeats 8000000 in
theorem writesR {c : Cp} {p wb : Nat} {X : Wk} {w : World} {r : Own} {tot : Nat} {ev : Int}
    (hW : WCp w r wb X c) (hok : CpOk p c) (hbnd : Bnd w r) (htot : wrote c = tot) (hev : writesE c = ev) :
    Calls Tryd.prog 35 #[.pointer (some ⟨wb, 0, none⟩)] w (PostV (.tuple #[.int .i64 tot, .int .i64 ev]) (WEnd ⟨countAll (wrote c) c.l, (writesC c).s, (writesC c).k, (writesC c).t, wrote c⟩ wb X w r)) := by
  obtain ⟨hWA, hkq⟩ := hW
  obtain ⟨left, hleft⟩ : ∃ left, c.s.left = left := ⟨_, rfl⟩
  have hp1 := hok.s.2.2.1
  have hp2 := hok.s.2.2.2
  have hlz : left ≤ 65535 := by unfold Sc.left at hleft; omega
  obtain ⟨said, hsaid⟩ : ∃ said, (if left = 0 then 0 else c.t.said left) = said := ⟨_, rfl⟩
  obtain ⟨v, hv⟩ : ∃ v : Int, (if left = 0 then 0 else if c.t.full left = true then 362 else 0) = v := ⟨_, rfl⟩
  have htn : (if left = 0 then 0 else min said left) = tot := by rw [← htot, ← hsaid]; unfold wrote; rw [hleft]; split <;> rfl
  have hthas := hok.has
  have htk := hok.tk
  have hkk := hok.kk
  have hdat := hWA.2.2.1
  have hds : X.dat.size = c.s.data.length := by rw [hdat]; exact Array.length_toList.symm
  have hdz : X.dat.size ≤ 65535 := by omega
  have hl2 : (X.dat.size : Int) - c.s.pos = left := by unfold Sc.left at hleft; omega
  have hsi : (c.s.pos : Int) ≤ X.dat.size := by omega
  have hB := hWA.2.1
  have c0 := hB.cell 0 rfl
  have c12 := hB.cell 12 rfl
  obtain ⟨rest, hrest⟩ : ∃ rest, X.dat.extract c.s.pos X.dat.size = rest := ⟨_, rfl⟩
  have hrsz : rest.size = left := by rw [← hrest, ByteArray.size_extract]; omega
  have hrl : rest.data.toList = c.s.data.drop c.s.pos := by
    rw [← hrest, hdat]
    have hX : X.dat.size = X.dat.data.toList.length := Array.length_toList.symm
    rw [ByteArray.data_extract, Array.toList_extract, List.extract_eq_take_drop, List.take_of_length_le (by simp only [List.length_drop]; omega)]
  have hks : ∀ y ∈ ksOf c.k, 0 ≤ y ∧ y ≤ 1000000 := by
    intro y hy
    unfold ksOf at hy
    obtain ⟨x, hx, rfl⟩ := List.mem_map.1 hy
    have := hok.k x (by simpa using hx)
    omega
  have hsdle : said ≤ left + 1 := by
    rw [← hsaid]
    split
    · omega
    · have := took_le c.t left
      unfold Tank.said
      split
      · omega
      · split <;> omega
  have htle : tot ≤ left := by rw [← htn]; split <;> omega
  have hsl : ∀ wx, (Instr.slice 9 (.string X.dat) (some (.int .i64 (c.s.pos : Int))) none none).run Tryd.prog wx = .ok (.string rest) wx := fun wx => by
    have h9 := run_slice_string_l (P := Tryd.prog) wx 9 X.dat Tryd.underlying9 .i64 (c.s.pos : Int) (by omega) hsi
    rw [h9, Int.toNat_natCast, hrest]
  have HWA := Lib.hid hWA
  have HKQ := Lib.hid hkq
  have HOK := Lib.hid hok
  have HLEFT := Lib.hid hleft
  have HSAID := Lib.hid hsaid
  have HV := Lib.hid hv
  have HTN := Lib.hid htn
  have HRSZ := Lib.hid hrsz
  have HRL := Lib.hid hrl
  have HKS := Lib.hid hks
  have HTOT := Lib.hid htot
  have HEV := Lib.hid hev
  have HBND := Lib.hid hbnd
  have HTK := Lib.hid (And.intro htk hkk)
  have HTH := Lib.hid (show c.t.has.length + left ≤ 500000 by omega)
  clear hWA hkq hok hleft hsaid hv htn hrl hks htot hev hbnd hthas htk hkk hdat hds hB hp1 hp2
  go_enter Tryd.func35, Tryd.ntmps35
  go_wp2_with fail
  go_quiet (fail)
  rename Nat => nq1
  clear c0 c12 hsl
  go_upto_if 21 with (fail)
  go_cut [5, 6, 7] from 9 (fun s5 s6 s7 wx => s5 = .int .i64 (tot : Int) ∧ s6 = .int .i64 (said : Int) ∧ s7 = .int .i64 v ∧ RowKit.Hid (∃ rx, Step KW3 w r wx rx ∧ WCp wx rx wb X { c with t := (writesC c).t, k := (writesC c).k }))
  case first =>
    by_cases hl0 : left = 0
    · have hd1 : decide ((left : Int) > 0) = false := by simp; omega
      have hd2 : decide (0 < left) = false := by simp; omega
      have hs0 : said = 0 := by rw [← HSAID.out, if_pos hl0]
      have hv0 : v = 0 := by rw [← HV.out, if_pos hl0]
      have ht0 : tot = 0 := by rw [← HTN.out, if_pos hl0]
      have hwc : writesC c = c := by unfold writesC; rw [if_pos (by rw [HLEFT.out]; exact hl0)]
      have HWC := Lib.hid hwc
      have HS0 := Lib.hid hs0
      have HV0 := Lib.hid hv0
      have HT0 := Lib.hid ht0
      clear hwc hs0 hv0 ht0
      go_wp2_with fail
      go_meet
      case rel =>
        have hd0 : Step (fun _ => False) w r (w.drewN nq1) r := (Step.refl _ HBND.out).calm (below_drewN _ _ _)
        refine ⟨by rw [HT0.out]; rfl, by rw [HS0.out]; rfl, by rw [HV0.out], Lib.hid ⟨r, hd0.mono (fun _ h => h.elim), ?_⟩⟩
        rw [HWC.out]
        exact ⟨HWA.out.calm hd0, HKQ.out⟩
    · have hd1 : decide ((left : Int) > 0) = true := by simp; omega
      have hd2 : decide (0 < left) = true := by simp; omega
      have hcv := fun (wx : World) => run_bytes_of_string (P := Tryd.prog) wx 9 78 5 rest Tryd.underlying9 under78 (by kernel_rfl)
      obtain ⟨cap, hcap⟩ : ∃ cap, grownCap (w.drewN nq1) left 0 5 = cap := ⟨_, rfl⟩
      have hcap1 : left ≤ cap := by rw [← hcap]; exact grownCap_ge _ _ _ _
      have hcap2 : cap ≤ maxLen := by rw [← hcap]; exact grownCap_le_maxLen _ _ _ _ (by unfold maxLen; omega)
      go_wp2_with fail
      have hx : Step (fun _ => False) w r ((w.drewN (nq1 + 1)).alloc (.cells (bytesRow rest cap) 5 ((bytesRow rest cap).size, (bytesRow rest cap).size + 1))) r := ((Step.refl _ HBND.out).calm (below_drewN _ _ (nq1 + 1))).alloc _
      have hR : RdK ((w.drewN (nq1 + 1)).alloc (.cells (bytesRow rest cap) 5 ((bytesRow rest cap).size, (bytesRow rest cap).size + 1))) r none 1 (some ⟨w.heap.size, 0, none⟩) left cap (B8 (c.s.data.drop c.s.pos)) := by
        refine ⟨?_, .inr (fun b hb => by cases hb; exact HBND.out _ (Nat.le_refl _))⟩
        have := rd_bytes (w.drewN (nq1 + 1)) rest cap (by rw [HRSZ.out]; exact hcap1) hcap2
        rw [HRSZ.out, HRL.out] at this
        exact this
      have hbl : (c.s.data.drop c.s.pos).length = left := by rw [List.length_drop, ← HLEFT.out]; rfl
      refine (workWriteR (said := said) (v := v) (bs := c.s.data.drop c.s.pos) (HWA.out.calm hx) HOK.out.t hR (by rw [hbl]; exact HTH.out) (by have := HTK.out; omega) HKS.out hx.bound (by rw [hbl, ← HSAID.out, if_neg hl0]) (by rw [hbl, ← HV.out, if_neg hl0])).mono ?_
      rintro e1 w2 ⟨rfl, r2, g2, hW2⟩
      rw [sunk_ks _ HKQ.out, hbl] at hW2
      have hwc : writesC c = { c with s := c.s.skip (wrote c), t := c.t.put (c.s.data.drop c.s.pos), k := c.k.map (addK (c.t.said c.s.left)) } := by unfold writesC; rw [if_neg (by rw [HLEFT.out]; exact hl0)]
      have HWC := Lib.hid hwc
      have G2 := Lib.hid ((hx.mono (K' := KW3) (fun _ h => h.elim)).trans (g2.mono (fun j hj => by first | exact hj.elim | (unfold KW2 at hj; unfold KW3; omega) | (unfold KW3; omega))))
      have HW2 := Lib.hid hW2
      have hmn1 : (if (said : Int) < left then (said : Int) else left) = tot := by rw [← HTN.out, if_neg hl0]; split <;> omega
      have hmn2 : (if (left : Int) < said then (left : Int) else said) = tot := by rw [← HTN.out, if_neg hl0]; split <;> omega
      have hmn3 : (if said < left then (said : Int) else left) = tot := by rw [← HTN.out, if_neg hl0]; split <;> omega
      have hmn4 : (if left < said then (left : Int) else said) = tot := by rw [← HTN.out, if_neg hl0]; split <;> omega
      clear hx hR hbl g2 hW2 hwc hcv hcap
      go_wp2_with fail
      go_meet
      case rel =>
        refine ⟨rfl, rfl, rfl, Lib.hid ⟨r2, G2.out, ?_⟩⟩
        rw [HWC.out]
        refine ⟨?_, (addK_fst' _ _).trans HKQ.out⟩
        have := HW2.out
        rw [← HLEFT.out] at this
        exact this
  case rest =>
    obtain ⟨rfl, rfl, rfl, HWX⟩ := hcut
    rename World => w3
    obtain ⟨rx, gx, hWx, hkx⟩ := HWX.out
    dsimp only at hWx hkx
    have hBx := hWx.2.1
    have c12 := hBx.cell 12 rfl
    have f12 := hBx.free 12 (by simp [Wk.cells])
    obtain ⟨p9, hp9⟩ : ∃ p9, c.s.pos + tot = p9 := ⟨_, rfl⟩
    have hp9i : (c.s.pos : Int) + tot = p9 := by omega
    have hp9b : (p9 : Int) ≤ 200000 := by omega
    have hwb := hWx.1
    have g4 : Step (· = 0) w3 rx (w3.setCell ⟨wb, 12, none⟩ (.int .i64 (p9 : Int))) rx := (Step.refl _ gx.bound).put _ (fun _ => ⟨0, hwb, rfl⟩)
    have hW4 : WorkAt (w3.setCell ⟨wb, 12, none⟩ (.int .i64 (p9 : Int))) rx wb X c.l (c.s.skip tot) (ksOf (writesC c).k) (writesC c).t := by
      refine hWx.src g4 ?_ rfl rfl
      have hcs : X.cells (c.s.skip tot) (writesC c).t = (X.cells c.s (writesC c).t).set 12 (.int .i64 (p9 : Int)) := by simp [Wk.cells, Sc.skip, ← hp9]
      rw [hcs]
      exact hBx.set (j := 12) _
    have hwr9 : wrote c = tot := HTOT.out
    have hsk : c.s.skip tot = (writesC c).s := by
      unfold writesC
      split
      · rename_i h0
        have : tot = 0 := by rw [← HTN.out, if_pos (by rw [← HLEFT.out]; exact h0)]
        rw [this]; rfl
      · rw [hwr9]
    rw [hsk] at hW4
    have hcn := hW4.2.2.2.2.2.2.2.2.1
    have hcl3 := hcn.1.rd.le
    have hcm3 := hcn.1.rd.max
    unfold maxLen at hcm3
    have hcle : c.l.length = X.pn := hWx.len
    have hcnt : ∀ y ∈ (c.l.reverse.map Wr.cnt), 0 ≤ y ∧ y ≤ 65535 := by
      intro y hy
      obtain ⟨x, hx, rfl⟩ := List.mem_map.1 hy
      have h5 := HOK.out.l x (by simpa using hx)
      have h6 := h5.2.2.2.1
      have h7 := h5.2.2.2.2.1
      have h8 := HOK.out.s.2.2.1
      have h9 := HOK.out.s.2.2.2
      omega
    obtain ⟨cs, hcs⟩ : ∃ cs, c.l.reverse.map Wr.cnt = cs := ⟨_, rfl⟩
    rw [hcs] at hcn hcnt
    have hcsl : cs.length = X.pn := by rw [← hcs, List.length_map, List.length_reverse]; exact hcle
    have GX := Lib.hid gx
    have G4 := Lib.hid g4
    have HW4 := Lib.hid hW4
    have HKX := Lib.hid hkx
    have HCN := Lib.hid hcn
    have HCNT := Lib.hid hcnt
    have HCS := Lib.hid hcs
    have HCSL := Lib.hid hcsl
    have HP9 := Lib.hid hp9
    have HWR9 := Lib.hid hwr9
    clear HWX gx hWx hkx hBx hwb g4 hW4 hcn hcnt hcs hp9 hsk hwr9 hcle hcsl
    go_wp2_with fail
    clear c12 f12
    generalize w3.setCell ⟨wb, 12, none⟩ (.int .i64 (p9 : Int)) = w4 at G4 HW4 HCN ⊢
    go_loopw [8] (fun ix wr => ∃ i, i ≤ X.pn ∧ ix = .int .i64 ((i : Nat) : Int) ∧ Step (· = 2) w4 rx wr rx ∧ Row 0 wr 1 X.a3 X.pn X.c3 (I3 (addI tot i cs))) (fun ix _ => X.pn - (intOf ix).toNat)
    case atStart => exact ⟨0, Nat.zero_le _, rfl, Step.refl _ (GX.out.trans (G4.out.mono (fun j hj => by first | exact hj.elim | (unfold KW2 at hj; unfold KW3; omega) | (unfold KW3; omega)))).bound, by simpa [addI] using HCN.out.1⟩
    case round =>
      obtain ⟨i, hi, rfl, g, hrow⟩ := hrel
      have c16 := (HW4.out.2.1.step g HW4.out.1 (by omega)).cell 16 rfl
      have c3 := (HW4.out.2.1.step g HW4.out.1 (by omega)).cell 3 rfl
      have hc3e : (writesC c).s.broken = c.s.broken := by unfold writesC; split <;> rfl
      rw [hc3e] at c3
      have HGG := Lib.hid g
      have HROW := Lib.hid hrow
      by_cases hlt : i < X.pn
      · obtain ⟨b2, off2, ha3, _, hb2, _, hfr⟩ := hrow.at1 hlt
        obtain ⟨b3, off3, ha3', hb3, hval⟩ := hrow.rd.at1 hlt
        rw [ha3] at ha3' c16
        cases ha3'
        have hics : i < cs.length := by rw [HCSL.out]; exact hlt
        have hv2 : (I3 (addI tot i cs))[i]? = some (.int .i64 cs[i]) := by
          have := addI_at (n := tot) hics
          simp [I3, this, hics]
        rw [hv2] at hval
        have hcb := HCNT.out cs[i] (List.getElem_mem _)
        have HSC := Lib.hid (addI_succ (n := tot) (show cs[i]? = some cs[i] by simp [hics]))
        generalize cs[i] = cc at hval hcb HSC
        obtain ⟨hcb1, hcb2⟩ := hcb
        have HA3 := Lib.hid ha3
        have hli : (i : Int) < X.pn := by omega
        have htb9 : (tot : Int) ≤ 65535 := by omega
        clear hrow g hb3 hv2 ha3 c3 hc3e
        go_wp2_with fail
        go_region
        all_goals
          go_wp2
          go_roundw
          case rel =>
            have ho : rx b2 = some 2 := HCN.out.2 b2 (by rw [HA3.out]; rfl)
            refine ⟨i + 1, by omega, by go_num, HGG.out.drew.put _ (fun _ => ⟨2, ho, rfl⟩), ?_⟩
            have h1 := HROW.out.drew.set HA3.out (j := i) (.int .i64 (cc + tot))
            have h3 : (I3 (addI tot i cs)).set i (.int .i64 (cc + tot)) = I3 (addI tot (i + 1) cs) := by
              rw [HSC.out]; simp [I3, List.map_set]
            rw [h3] at h1
            exact h1
          case measure => simp [intOf]; omega
      · obtain rfl : i = X.pn := by omega
        have hrow9 : Row 0 wr 1 X.a3 X.pn X.c3 (I3 ((countAll tot c.l).reverse.map Wr.cnt)) := by
          have he : addI tot X.pn cs = (countAll tot c.l).reverse.map Wr.cnt := by
            rw [← HCSL.out, addI_done, ← HCS.out, countAll, ← List.map_reverse, List.map_map, List.map_map]
            rfl
          rw [← he]; exact hrow
        have hW5 : WCp wr rx wb X ⟨countAll (wrote c) c.l, (writesC c).s, (writesC c).k, (writesC c).t, wrote c⟩ := by
          rw [HWR9.out]
          refine ⟨HW4.out.counts g ?_ ?_ ?_ hrow9, HKX.out⟩ <;> (unfold countAll; rw [List.map_map]; rfl)
        have HW5 := Lib.hid hW5
        have G5 := Lib.hid ((GX.out.trans (G4.out.mono (fun j hj => by first | exact hj.elim | (unfold KW2 at hj; unfold KW3; omega) | (unfold KW3; omega)))).trans (g.mono (fun j hj => by first | exact hj.elim | (unfold KW2 at hj; unfold KW3; omega) | (unfold KW3; omega))))
        have hni : ¬ ((X.pn : Int) < X.pn) := by omega
        obtain ⟨a3v, ha3v⟩ : ∃ a, X.a3 = a := ⟨_, rfl⟩
        clear hrow g hrow9 hW5
        have hwE : writesE c = ev := HEV.out
        unfold writesE at hwE
        rw [HLEFT.out] at hwE
        by_cases hA : left < said
        · have d1 : decide ((said : Int) > left) = true := by simp; omega
          have d1' : decide (left < said) = true := by simp; omega
          have hl0 : left ≠ 0 := by
            intro h0
            have := HSAID.out
            rw [if_pos h0] at this
            omega
          have hev : ev = 361 := by rw [← hwE, if_neg hl0, if_pos (by have := HSAID.out; rw [if_neg hl0] at this; omega)]
          subst hev
          clear hA hwE hl0
          go_wp2
          refine bodyPost_ret (v := .tuple #[.int .i64 (tot : Int), .int .i64 361]) (by simp [results, Tryd.f35, go_sem]) rfl ?_
          exact ⟨rfl, rx, G5.out, HW5.out⟩
        · have d1 : decide ((said : Int) > left) = false := by simp; omega
          have d1' : decide (left < said) = false := by simp; omega
          by_cases hv0 : v = 0
          · by_cases hC : tot < left
            · have d2 : decide ((tot : Int) < left) = true := by simp; omega
              have d2' : decide (tot < left) = true := by simp; omega
              have hl0 : left ≠ 0 := by omega
              have hev : ev = 360 := by
                have e1 := HSAID.out
                have e2 := HV.out
                have e3 := HTN.out
                rw [if_neg hl0] at e1 e2 e3
                rw [← hwE, if_neg hl0, if_neg (by omega), if_neg (by intro hf; rw [if_pos hf] at e2; omega), if_pos (by omega)]
              subst hev
              subst hv0
              clear hA hwE hC hl0
              go_wp2
              refine bodyPost_ret (v := .tuple #[.int .i64 (tot : Int), .int .i64 360]) (by simp [results, Tryd.f35, go_sem]) rfl ?_
              exact ⟨rfl, rx, G5.out, HW5.out⟩
            · have d2 : decide ((tot : Int) < left) = false := by simp; omega
              have d2' : decide (tot < left) = false := by simp; omega
              have hev : (if c.s.broken then (363 : Int) else 0) = ev := by
                rw [← hwE]
                by_cases hl0 : left = 0
                · rw [if_pos hl0]
                · have e1 := HSAID.out
                  have e2 := HV.out
                  have e3 := HTN.out
                  rw [if_neg hl0] at e1 e2 e3
                  rw [if_neg hl0, if_neg (show ¬ left < c.t.said left by omega), if_neg (show ¬ c.t.full left = true by intro hf; rw [if_pos hf] at e2; omega), if_neg (show ¬ c.t.said left < left by omega)]
              subst hv0
              have HEV9 := Lib.hid hev
              clear hA hwE hC hev
              obtain ⟨bk, hbk⟩ : ∃ bk, c.s.broken = bk := ⟨_, rfl⟩
              rw [hbk] at c3 HEV9
              cases bk
              · have hev : ev = 0 := HEV9.out.symm
                subst hev
                go_wp2
                refine bodyPost_ret (v := .tuple #[.int .i64 (tot : Int), .int .i64 0]) (by simp [results, Tryd.f35, go_sem]) rfl ?_
                exact ⟨rfl, rx, G5.out, HW5.out⟩
              · have hev : ev = 363 := HEV9.out.symm
                subst hev
                go_wp2
                refine bodyPost_ret (v := .tuple #[.int .i64 (tot : Int), .int .i64 363]) (by simp [results, Tryd.f35, go_sem]) rfl ?_
                exact ⟨rfl, rx, G5.out, HW5.out⟩
          · have hl0 : left ≠ 0 := by
              intro h0
              have := HV.out
              rw [if_pos h0] at this
              omega
            have hf : c.t.full left = true := by
              have e2 := HV.out
              rw [if_neg hl0] at e2
              by_cases hf : c.t.full left = true
              · exact hf
              · rw [if_neg hf] at e2; omega
            have hv1 : v = 362 := by
              have e2 := HV.out
              rw [if_neg hl0, if_pos hf] at e2
              omega
            have hev : ev = 362 := by
              have e1 := HSAID.out
              rw [if_neg hl0] at e1
              rw [← hwE, if_neg hl0, if_neg (by omega), if_pos hf]
            subst hev
            subst hv1
            clear hA hwE hl0 hf hv0
            go_wp2
            refine bodyPost_ret (v := .tuple #[.int .i64 (tot : Int), .int .i64 362]) (by simp [results, Tryd.f35, go_sem]) rfl ?_
            exact ⟨rfl, rx, G5.out, HW5.out⟩
end Go.Proofs.YtigfgdefgnahpaaDoor
