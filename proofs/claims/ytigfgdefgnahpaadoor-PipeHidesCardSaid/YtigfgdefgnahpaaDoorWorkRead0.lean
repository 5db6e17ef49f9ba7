/-
  The walk of Work's read at level 0 (the document's source). Not a statement of the seat.
-/
import Derived.Test.YtigfgdefgnahpaaDoorWorkWrite
import Derived.StillTailTactics
import Derived.Deep.Cut
namespace Go.Proofs.YtigfgdefgnahpaaDoor
open Go.RowKit

/-- behind a reading at level 0: the bytes, the error, the two cells that have turned -/
def Rd0 (wb : Nat) (x : Wk) (s : Sc) (t : Tank) (m : Nat) (w : World) (r : Own) (e : Ending) (w' : World) : Prop :=
  ∃ a n c, e = .returned (.tuple #[.slice a n c, .int .i64 (s.err m)]) ∧ n = s.gives m ∧ Step (· = 0) w r w' r ∧ RdK w' r none 1 a n c (B8 ((s.data.drop s.pos).take n)) ∧
    Blk w' wb (x.cells (s.next m) t)

/-- '[]byte(s)' reads as s -/
theorem rd_bytes (w : World) (s : ByteArray) (cap : Nat) (h1 : s.size ≤ cap) (h2 : cap ≤ maxLen) : Rd (w.alloc (.cells (bytesRow s cap) 5 ((bytesRow s cap).size, (bytesRow s cap).size + 1))) 1 (some ⟨w.heap.size, 0, none⟩) s.size cap (B8 s.data.toList) := by
  refine ⟨by rw [B8_length, Nat.mul_one]; exact Array.length_toList, h1, h2, .inr ⟨_, _, rfl, by rw [sz_alloc]; omega, fun j hj => ?_⟩⟩
  rw [B8_length] at hj
  have hj2 : j < s.data.size := by simpa using hj
  have e1 := World.cell?_alloc_mark w (bytesRow s cap) 5 ((bytesRow s cap).size, (bytesRow s cap).size + 1) j
  rw [bytesRow_at s cap j hj2] at e1
  rw [Nat.zero_add]
  refine Eq.trans (b := some (Value.int .u8 (s.data[j].toNat : Int))) e1 ?_
  have e3 : s.data.toList[j]? = some s.data[j] := by simp
  rw [B8, List.getElem?_map, e3]
  rfl

set_option maxRecDepth 100000 in
set_option maxHeartbeats 4000000 in
theorem workRead0 {wb m : Nat} {x : Wk} {s : Sc} {t : Tank} {w : World} {r : Own} (hwb : r wb = some 0) (hbnd : Bnd w r) (hB : Blk w wb (x.cells s t))
    (hdat : s.data = x.dat.data.toList) (hZ : RdK w r none 1 x.sa x.sn x.sc (I3 s.sizes)) (hok : s.ok) (hk : s.k < 100000000000) (hm : m ≤ 1000000) :
    Calls Tryd.prog 53 #[.pointer (some ⟨wb, 0, none⟩), .int .i64 0, .int .i64 m] w (Rd0 wb x s t m w r) := by
  obtain ⟨e, he⟩ : ∃ e, s.err m = e := ⟨_, rfl⟩
  obtain ⟨n, hn⟩ : ∃ n, s.gives m = n := ⟨_, rfl⟩
  have hds : x.dat.size = s.data.length := by rw [hdat]; exact Array.length_toList.symm
  obtain ⟨hz, hz64, hp1, hp2⟩ := hok
  have c0 := hB.cell 0 rfl
  have c1 := hB.cell 1 rfl
  have c2 := hB.cell 2 rfl
  have c3 := hB.cell 3 rfl
  have c12 := hB.cell 12 rfl
  have c13 := hB.cell 13 rfl
  have f12 := hB.free 12 (by simp [Wk.cells])
  have f13 := hB.free 13 (by simp [Wk.cells])
  have hnum : Nums w x.sa x.sn x.sc s.sizes := hZ.1
  have hzl := hnum.len
  obtain ⟨left, hleft⟩ : ∃ left, s.left = left := ⟨_, rfl⟩
  have hl2 : (x.dat.size : Int) - s.pos = left := by unfold Sc.left at hleft; omega
  have hdz : x.dat.size ≤ 65535 := by omega
  have hlz : left ≤ 65535 := by omega
  have hpz : s.pos ≤ 65535 := by omega
  have hgives : min (cutM s.sizes s.k m) left = n := by rw [← hn, ← hleft]; rfl
  obtain ⟨n0, hn0⟩ : ∃ n0, min left m = n0 := ⟨_, rfl⟩
  have hm1 : (if (left : Int) < m then (left : Int) else m) = n0 := by rw [← hn0]; split <;> omega
  have hm2 : (if (m : Int) < left then (m : Int) else left) = n0 := by rw [← hn0]; split <;> omega
  have hm3 : (if left < m then (left : Int) else m) = n0 := by rw [← hn0]; split <;> omega
  have hm4 : (if m < left then (m : Int) else left) = n0 := by rw [← hn0]; split <;> omega
  have hnl : n ≤ left := by omega
  have HERR := Lib.hid (show (if left = 0 then s.fin else if n = left ∧ s.early = true then s.fin else 0) = e by rw [← he, ← hleft, ← hn]; rfl)
  have HE := Lib.hid he
  have HN := Lib.hid hn
  have HG := Lib.hid hgives
  have HL := Lib.hid hleft
  have HDS := Lib.hid hds
  have HZ := Lib.hid hz
  have HNUM := Lib.hid hnum
  have HDAT := Lib.hid hdat
  have HZK := Lib.hid hZ
  have HBND := Lib.hid hbnd
  have HN0 := Lib.hid hn0
  have HB := Lib.hid hB
  have HZL := Lib.hid hzl
  have HP1 := Lib.hid hp1
  have HL2 := Lib.hid hl2
  clear hz hnum hdat hZ hleft hz64 hds hp1 hp2 hbnd hn0 hgives hn he hB
  by_cases hl0 : left = 0
  · subst hl0
    by_cases h0 : x.sn = 0
    · have hx' : cutM s.sizes s.k m = m := by unfold cutM; rw [if_pos (by omega)]
      have hnn : n = n0 := by rw [← HG.out, hx', ← HN0.out]; omega
      subst hnn
      obtain ⟨zsn, hzsn⟩ : ∃ z, x.sn = z := ⟨_, rfl⟩
      rw [hzsn] at c1 h0
      subst h0
      go_enter Tryd.func53, Tryd.ntmps53
      go_wp2_with fail
      go_quiet (fail)
      go_wp2_with fail
      have hM : Step (· = 0) w r ((w.drewN nq).setCell ⟨wb, 13, none⟩ (.int .i64 ((s.k : Int) + 1))) r ∧ Blk ((w.drewN nq).setCell ⟨wb, 13, none⟩ (.int .i64 ((s.k : Int) + 1))) wb ((x.cells s t).set 13 (.int .i64 ((s.k : Int) + 1))) :=
        ⟨((Step.refl _ HBND.out).calm (below_drewN _ _ _)).put _ (fun _ => ⟨0, hwb, rfl⟩), (HB.out.below (below_drewN _ _ _)).set (j := 13) _⟩
      generalize ((w.drewN nq).setCell ⟨wb, 13, none⟩ (.int .i64 ((s.k : Int) + 1))) = w1 at hM ⊢
      have HM := Lib.hid hM
      clear hM c0 c1 c2 c3 c12 c13 f12 f13
      refine (endR (HM.out.2.cell 3 rfl) (e := e) (by rw [← HERR.out]; simp [Sc.fin])).mono ?_
      rintro e1 w2 ⟨rfl, hb2⟩
      have HB2 := Lib.hid hb2
      clear hb2
      go_wp2
      refine bodyPost_ret (v := .tuple #[.slice none 0 0, .int .i64 e]) (by simp [results, Tryd.f53, go_sem]) rfl ?_
      obtain ⟨k1, k2⟩ := HM.out
      have hg0 : s.gives m = 0 := by rw [HN.out]; omega
      refine ⟨none, 0, 0, by rw [HE.out], hg0.symm, k1.calm HB2.out, ⟨⟨by simp [B8], Nat.zero_le _, by unfold maxLen; omega, .inl ⟨rfl, fun _ => rfl⟩⟩, .inl rfl⟩, ?_⟩
      have := k2.below HB2.out
      simpa [Wk.cells, Sc.next, hg0] using this

    · obtain ⟨hcap, hmax⟩ := HNUM.out.bounds
      have hkl : s.k % x.sn < x.sn := Nat.mod_lt _ (by omega)
      obtain ⟨b, off, hsa, hb, e0⟩ := HNUM.out.at hkl
      rw [hsa] at c1
      have hx : cutM s.sizes s.k m = min m ((s.sizes[s.k % x.sn]?).getD 0).toNat := by unfold cutM; rw [if_neg (by omega), hzl]
      have hz1 : 0 ≤ (s.sizes[s.k % x.sn]?).getD 0 ∧ (s.sizes[s.k % x.sn]?).getD 0 ≤ 65535 := by
        have : s.k % x.sn < s.sizes.length := by omega
        simp only [List.getElem?_eq_getElem this, Option.getD_some]
        exact HZ.out _ (List.getElem_mem _)
      generalize (s.sizes[s.k % x.sn]?).getD 0 = z at e0 hx hz1
      obtain ⟨hz0, hz2⟩ := hz1
      have h1 : (if (n0 : Int) < z then (n0 : Int) else z) = n := by rw [← HG.out, ← HN0.out, hx]; split <;> omega
      have h2 : (if z < (n0 : Int) then z else (n0 : Int)) = n := by rw [← HG.out, ← HN0.out, hx]; split <;> omega
      have hmd : ((s.k : Int)).tmod (x.sn : Int) = ((s.k % x.sn : Nat) : Int) := by rw [Int.ofNat_tmod]
      have hlt : ((s.k % x.sn : Nat) : Int) < (x.sn : Int) := by omega
      have hge : (0 : Int) ≤ ((s.k % x.sn : Nat) : Int) := by omega
      generalize s.k % x.sn = d at *
      have hp : (0 : Int) < (x.sn : Int) := by omega
      clear hx hz0 hz2 hzl
      go_enter Tryd.func53, Tryd.ntmps53
      go_wp2_with fail
      go_quiet (fail)
      rename Nat => nq1
      go_wp2_with fail
      go_quiet (fail)
      go_wp2_with fail
      have hM : Step (· = 0) w r ((w.drewN (nq1 + nq)).setCell ⟨wb, 13, none⟩ (.int .i64 ((s.k : Int) + 1))) r ∧ Blk ((w.drewN (nq1 + nq)).setCell ⟨wb, 13, none⟩ (.int .i64 ((s.k : Int) + 1))) wb ((x.cells s t).set 13 (.int .i64 ((s.k : Int) + 1))) :=
        ⟨((Step.refl _ HBND.out).calm (below_drewN _ _ _)).put _ (fun _ => ⟨0, hwb, rfl⟩), (HB.out.below (below_drewN _ _ _)).set (j := 13) _⟩
      generalize ((w.drewN (nq1 + nq)).setCell ⟨wb, 13, none⟩ (.int .i64 ((s.k : Int) + 1))) = w1 at hM ⊢
      have HM := Lib.hid hM
      clear hM c0 c1 c2 c3 c12 c13 f12 f13
      refine (endR (HM.out.2.cell 3 rfl) (e := e) (by rw [← HERR.out]; simp [Sc.fin])).mono ?_
      rintro e1 w2 ⟨rfl, hb2⟩
      have HB2 := Lib.hid hb2
      clear hb2
      go_wp2
      refine bodyPost_ret (v := .tuple #[.slice none 0 0, .int .i64 e]) (by simp [results, Tryd.f53, go_sem]) rfl ?_
      obtain ⟨k1, k2⟩ := HM.out
      have hg0 : s.gives m = 0 := by rw [HN.out]; omega
      refine ⟨none, 0, 0, by rw [HE.out], hg0.symm, k1.calm HB2.out, ⟨⟨by simp [B8], Nat.zero_le _, by unfold maxLen; omega, .inl ⟨rfl, fun _ => rfl⟩⟩, .inl rfl⟩, ?_⟩
      have := k2.below HB2.out
      simpa [Wk.cells, Sc.next, hg0] using this

  · have hl0' : ((left : Int) == 0) = false := by simp; omega
    by_cases h0 : x.sn = 0
    · have hx' : cutM s.sizes s.k m = m := by unfold cutM; rw [if_pos (by omega)]
      have hnn : n = n0 := by rw [← HG.out, hx', ← HN0.out]; omega
      subst hnn
      obtain ⟨zsn, hzsn⟩ : ∃ z, x.sn = z := ⟨_, rfl⟩
      rw [hzsn] at c1 h0
      subst h0
      go_enter Tryd.func53, Tryd.ntmps53
      go_wp2_with fail
      go_quiet (fail)
      go_wp2_with fail
      have hM : Step (· = 0) w r ((w.drewN nq).setCell ⟨wb, 13, none⟩ (.int .i64 ((s.k : Int) + 1))) r ∧ Blk ((w.drewN nq).setCell ⟨wb, 13, none⟩ (.int .i64 ((s.k : Int) + 1))) wb ((x.cells s t).set 13 (.int .i64 ((s.k : Int) + 1))) :=
        ⟨((Step.refl _ HBND.out).calm (below_drewN _ _ _)).put _ (fun _ => ⟨0, hwb, rfl⟩), (HB.out.below (below_drewN _ _ _)).set (j := 13) _⟩
      generalize ((w.drewN nq).setCell ⟨wb, 13, none⟩ (.int .i64 ((s.k : Int) + 1))) = w1 at hM ⊢
      have HM := Lib.hid hM
      clear hM c0 c1 c2 c3 c12 c13 f12 f13
      have c0' := HM.out.2.cell 0 rfl
      have c12' := HM.out.2.cell 12 rfl
      have hcv := fun (wx : World) => run_bytes_of_string (P := Tryd.prog) wx 9 78 5 (x.dat.extract s.pos (s.pos + n)) Tryd.underlying9 under78 (by kernel_rfl)
      have hns : ((s.pos : Int) + n) ≤ x.dat.size := by omega
      go_region
      have hsz : min (s.pos + n) x.dat.size - s.pos = n := by omega
      rw [hsz]
      obtain ⟨cap, hcap⟩ : ∃ cap, grownCap w1.drew n 0 5 = cap := ⟨_, rfl⟩
      have hcap1 : n ≤ cap := by rw [← hcap]; exact grownCap_ge _ _ _ _
      have hcap2 : cap ≤ maxLen := by rw [← hcap]; exact grownCap_le_maxLen _ _ _ _ (by unfold maxLen; omega)
      rw [hcap]
      obtain ⟨sv, hsv⟩ : ∃ sv, x.dat.extract s.pos (s.pos + n) = sv := ⟨_, rfl⟩
      have hsvn : sv.size = n := by rw [← hsv, ByteArray.size_extract]; exact hsz
      have hsvl : sv.data.toList = (s.data.drop s.pos).take n := by
        rw [← hsv, HDAT.out]
        simp [ByteArray.data_extract, Array.toList_extract, List.extract_eq_take_drop]
      rw [hsv]
      have hR : Rd (w1.alloc (.cells (bytesRow sv cap) 5 ((bytesRow sv cap).size, (bytesRow sv cap).size + 1))).drew.drew 1 (some ⟨w1.heap.size, 0, none⟩) n cap (B8 ((s.data.drop s.pos).take n)) := by
        have := (rd_bytes w1 sv cap (by omega) hcap2).drew.drew
        rw [hsvn, hsvl] at this
        exact this
      have hM2 := And.intro (((HM.out.1.alloc (.cells (bytesRow sv cap) 5 ((bytesRow sv cap).size, (bytesRow sv cap).size + 1))).drew).drew) (And.intro (((HM.out.2.alloc (.cells (bytesRow sv cap) 5 ((bytesRow sv cap).size, (bytesRow sv cap).size + 1))).drew).drew) (And.intro hR HM.out.1.size))
      generalize (w1.alloc (.cells (bytesRow sv cap) 5 ((bytesRow sv cap).size, (bytesRow sv cap).size + 1))).drew.drew = w2 at hM2 ⊢
      generalize w1.heap.size = nb at hM2 ⊢
      have HM2 := Lib.hid hM2
      clear hM2 hR HM c0' c12' hcv hcap hsv hsvn hsvl
      obtain ⟨p9, hp9⟩ : ∃ p9, s.pos + n = p9 := ⟨_, rfl⟩
      have hp9i : (s.pos : Int) + n = p9 := by omega
      have c12'' := HM2.out.2.1.cell 12 rfl
      have f12'' := HM2.out.2.1.free 12 (by simp [Wk.cells])
      go_wp2_with fail
      have hM3 : Step (· = 0) w r (w2.setCell ⟨wb, 12, none⟩ (.int .i64 (p9 : Int))) r ∧ Blk (w2.setCell ⟨wb, 12, none⟩ (.int .i64 (p9 : Int))) wb (x.cells (s.next m) t) ∧ RdK (w2.setCell ⟨wb, 12, none⟩ (.int .i64 (p9 : Int))) r none 1 (some ⟨nb, 0, none⟩) n cap (B8 ((s.data.drop s.pos).take n)) := by
        obtain ⟨k1, k2, k3, k4⟩ := HM2.out
        have hne : nb ≠ wb := fun e => by have := k1.bound nb; have := HBND.out nb k4; rw [e] at this; rw [hwb] at this; cases this
        refine ⟨k1.put _ (fun _ => ⟨0, hwb, rfl⟩), ?_, k3.kept (grownBy_setAt _ _ _) (.inl (fun h => hne (by cases h; rfl))), .inr (fun b hb => by cases hb; exact HBND.out nb k4)⟩
        have hcs : x.cells (s.next m) t = ((x.cells s t).set 13 (.int .i64 ((s.k : Int) + 1))).set 12 (.int .i64 (p9 : Int)) := by simp [Wk.cells, Sc.next, HN.out, ← hp9]
        rw [hcs]
        exact k2.set (j := 12) (.int .i64 (p9 : Int))
      have hM3' := hM3
      simp only [hp9i]
      generalize w2.setCell ⟨wb, 12, none⟩ (.int .i64 (p9 : Int)) = w3 at hM3 ⊢
      have HM3 := Lib.hid hM3
      clear hM3 hM3' HM2 c12'' f12''
      have c0 := HM3.out.2.1.cell 0 rfl
      have c2 := HM3.out.2.1.cell 2 rfl
      have c12 := HM3.out.2.1.cell 12 rfl
      have e12 : (((s.next m).pos : Nat) : Int) = p9 := by rw [← hp9, ← HN.out]; rfl
      rw [e12] at c12
      obtain ⟨ea, hea⟩ : ∃ ea, s.early = ea := ⟨_, rfl⟩
      have hea' : (s.next m).early = ea := hea
      rw [hea'] at c2
      have HEA := Lib.hid hea
      clear hea hea'
      by_cases hnl2 : n = left
      · have hpe : ((p9 : Int) == x.dat.size) = true := by simp; omega
        have hn0 : decide ((n : Int) > 0) = true := by simp; omega
        have hn1 : decide (0 < n) = true := by simp; omega
        cases ea
        · have ev : e = 0 := by rw [← HERR.out, if_neg hl0, if_neg (fun h => by rw [HEA.out] at h; simp at h)]
          subst ev
          subst hnl2
          go_quiet (fail)
          clear c0 c2 c12
          go_wp2
          refine bodyPost_ret (v := .tuple #[.slice (some ⟨nb, 0, none⟩) n cap, .int .i64 0]) (by simp [results, Tryd.f53, go_sem]) rfl ?_
          have k9 : Step (fun _ => False) w3 r (w3.drewN nq) r := (Step.refl _ HM3.out.1.bound).calm (below_drewN _ _ _)
          have k8 : Step (· = 0) w r (w3.drewN nq) r := HM3.out.1.trans (k9.mono (fun _ h => h.elim))
          exact ⟨_, _, _, by rw [HE.out], HN.out.symm, k8, HM3.out.2.2.step k9 (fun _ h => by cases h), HM3.out.2.1.step k9 hwb id⟩
        · have ev : (if s.broken then (363 : Int) else -1) = e := by rw [← HERR.out, if_neg hl0, if_pos (show n = left ∧ s.early = true from ⟨hnl2, HEA.out⟩)]; rfl
          have EV := Lib.hid ev
          clear ev
          subst hnl2
          go_quiet (fail)
          clear c0 c2 c12
          have HQ4 := Lib.hid (below_drewN w3.heap.size w3 nq)
          go_wp2_with fail
          have c3 := ((HM3.out.2.1.below (below_drewN w3.heap.size w3 nq)).cell 3 rfl)
          refine (endR c3 EV.out).mono ?_
          rintro e1 w4 ⟨rfl, hb4⟩
          have HB4 := Lib.hid hb4
          clear hb4 c3
          go_wp2
          refine bodyPost_ret (v := .tuple #[.slice (some ⟨nb, 0, none⟩) n cap, .int .i64 e]) (by simp [results, Tryd.f53, go_sem]) rfl ?_
          have k9 : Step (fun _ => False) w3 r w4 r := (Step.refl _ HM3.out.1.bound).calm (HQ4.out.trans (HB4.out.mono HQ4.out.size))
          have k8 : Step (· = 0) w r w4 r := HM3.out.1.trans (k9.mono (fun _ h => h.elim))
          exact ⟨_, _, _, by rw [HE.out], HN.out.symm, k8, HM3.out.2.2.step k9 (fun _ h => by cases h), HM3.out.2.1.step k9 hwb id⟩
      · have hpe : ((p9 : Int) == x.dat.size) = false := by simp; omega
        have ev : e = 0 := by rw [← HERR.out, if_neg hl0, if_neg (fun h => hnl2 h.1)]
        subst ev
        go_quiet (fail)
        clear c0 c2 c12
        go_wp2
        refine bodyPost_ret (v := .tuple #[.slice (some ⟨nb, 0, none⟩) n cap, .int .i64 0]) (by simp [results, Tryd.f53, go_sem]) rfl ?_
        have k9 : Step (fun _ => False) w3 r (w3.drewN nq) r := (Step.refl _ HM3.out.1.bound).calm (below_drewN _ _ _)
        have k8 : Step (· = 0) w r (w3.drewN nq) r := HM3.out.1.trans (k9.mono (fun _ h => h.elim))
        exact ⟨_, _, _, by rw [HE.out], HN.out.symm, k8, HM3.out.2.2.step k9 (fun _ h => by cases h), HM3.out.2.1.step k9 hwb id⟩

    · obtain ⟨hcap, hmax⟩ := HNUM.out.bounds
      have hkl : s.k % x.sn < x.sn := Nat.mod_lt _ (by omega)
      obtain ⟨b, off, hsa, hb, e0⟩ := HNUM.out.at hkl
      rw [hsa] at c1
      have hx : cutM s.sizes s.k m = min m ((s.sizes[s.k % x.sn]?).getD 0).toNat := by unfold cutM; rw [if_neg (by omega), hzl]
      have hz1 : 0 ≤ (s.sizes[s.k % x.sn]?).getD 0 ∧ (s.sizes[s.k % x.sn]?).getD 0 ≤ 65535 := by
        have : s.k % x.sn < s.sizes.length := by omega
        simp only [List.getElem?_eq_getElem this, Option.getD_some]
        exact HZ.out _ (List.getElem_mem _)
      generalize (s.sizes[s.k % x.sn]?).getD 0 = z at e0 hx hz1
      obtain ⟨hz0, hz2⟩ := hz1
      have h1 : (if (n0 : Int) < z then (n0 : Int) else z) = n := by rw [← HG.out, ← HN0.out, hx]; split <;> omega
      have h2 : (if z < (n0 : Int) then z else (n0 : Int)) = n := by rw [← HG.out, ← HN0.out, hx]; split <;> omega
      have hmd : ((s.k : Int)).tmod (x.sn : Int) = ((s.k % x.sn : Nat) : Int) := by rw [Int.ofNat_tmod]
      have hlt : ((s.k % x.sn : Nat) : Int) < (x.sn : Int) := by omega
      have hge : (0 : Int) ≤ ((s.k % x.sn : Nat) : Int) := by omega
      generalize s.k % x.sn = d at *
      have hp : (0 : Int) < (x.sn : Int) := by omega
      clear hx hz0 hz2 hzl
      go_enter Tryd.func53, Tryd.ntmps53
      go_wp2_with fail
      go_quiet (fail)
      rename Nat => nq1
      go_wp2_with fail
      go_quiet (fail)
      go_wp2_with fail
      have hM : Step (· = 0) w r ((w.drewN (nq1 + nq)).setCell ⟨wb, 13, none⟩ (.int .i64 ((s.k : Int) + 1))) r ∧ Blk ((w.drewN (nq1 + nq)).setCell ⟨wb, 13, none⟩ (.int .i64 ((s.k : Int) + 1))) wb ((x.cells s t).set 13 (.int .i64 ((s.k : Int) + 1))) :=
        ⟨((Step.refl _ HBND.out).calm (below_drewN _ _ _)).put _ (fun _ => ⟨0, hwb, rfl⟩), (HB.out.below (below_drewN _ _ _)).set (j := 13) _⟩
      generalize ((w.drewN (nq1 + nq)).setCell ⟨wb, 13, none⟩ (.int .i64 ((s.k : Int) + 1))) = w1 at hM ⊢
      have HM := Lib.hid hM
      clear hM c0 c1 c2 c3 c12 c13 f12 f13
      have c0' := HM.out.2.cell 0 rfl
      have c12' := HM.out.2.cell 12 rfl
      have hcv := fun (wx : World) => run_bytes_of_string (P := Tryd.prog) wx 9 78 5 (x.dat.extract s.pos (s.pos + n)) Tryd.underlying9 under78 (by kernel_rfl)
      have hns : ((s.pos : Int) + n) ≤ x.dat.size := by omega
      go_region
      have hsz : min (s.pos + n) x.dat.size - s.pos = n := by omega
      rw [hsz]
      obtain ⟨cap, hcap⟩ : ∃ cap, grownCap w1.drew n 0 5 = cap := ⟨_, rfl⟩
      have hcap1 : n ≤ cap := by rw [← hcap]; exact grownCap_ge _ _ _ _
      have hcap2 : cap ≤ maxLen := by rw [← hcap]; exact grownCap_le_maxLen _ _ _ _ (by unfold maxLen; omega)
      rw [hcap]
      obtain ⟨sv, hsv⟩ : ∃ sv, x.dat.extract s.pos (s.pos + n) = sv := ⟨_, rfl⟩
      have hsvn : sv.size = n := by rw [← hsv, ByteArray.size_extract]; exact hsz
      have hsvl : sv.data.toList = (s.data.drop s.pos).take n := by
        rw [← hsv, HDAT.out]
        simp [ByteArray.data_extract, Array.toList_extract, List.extract_eq_take_drop]
      rw [hsv]
      have hR : Rd (w1.alloc (.cells (bytesRow sv cap) 5 ((bytesRow sv cap).size, (bytesRow sv cap).size + 1))).drew.drew 1 (some ⟨w1.heap.size, 0, none⟩) n cap (B8 ((s.data.drop s.pos).take n)) := by
        have := (rd_bytes w1 sv cap (by omega) hcap2).drew.drew
        rw [hsvn, hsvl] at this
        exact this
      have hM2 := And.intro (((HM.out.1.alloc (.cells (bytesRow sv cap) 5 ((bytesRow sv cap).size, (bytesRow sv cap).size + 1))).drew).drew) (And.intro (((HM.out.2.alloc (.cells (bytesRow sv cap) 5 ((bytesRow sv cap).size, (bytesRow sv cap).size + 1))).drew).drew) (And.intro hR HM.out.1.size))
      generalize (w1.alloc (.cells (bytesRow sv cap) 5 ((bytesRow sv cap).size, (bytesRow sv cap).size + 1))).drew.drew = w2 at hM2 ⊢
      generalize w1.heap.size = nb at hM2 ⊢
      have HM2 := Lib.hid hM2
      clear hM2 hR HM c0' c12' hcv hcap hsv hsvn hsvl
      obtain ⟨p9, hp9⟩ : ∃ p9, s.pos + n = p9 := ⟨_, rfl⟩
      have hp9i : (s.pos : Int) + n = p9 := by omega
      have c12'' := HM2.out.2.1.cell 12 rfl
      have f12'' := HM2.out.2.1.free 12 (by simp [Wk.cells])
      go_wp2_with fail
      have hM3 : Step (· = 0) w r (w2.setCell ⟨wb, 12, none⟩ (.int .i64 (p9 : Int))) r ∧ Blk (w2.setCell ⟨wb, 12, none⟩ (.int .i64 (p9 : Int))) wb (x.cells (s.next m) t) ∧ RdK (w2.setCell ⟨wb, 12, none⟩ (.int .i64 (p9 : Int))) r none 1 (some ⟨nb, 0, none⟩) n cap (B8 ((s.data.drop s.pos).take n)) := by
        obtain ⟨k1, k2, k3, k4⟩ := HM2.out
        have hne : nb ≠ wb := fun e => by have := k1.bound nb; have := HBND.out nb k4; rw [e] at this; rw [hwb] at this; cases this
        refine ⟨k1.put _ (fun _ => ⟨0, hwb, rfl⟩), ?_, k3.kept (grownBy_setAt _ _ _) (.inl (fun h => hne (by cases h; rfl))), .inr (fun b hb => by cases hb; exact HBND.out nb k4)⟩
        have hcs : x.cells (s.next m) t = ((x.cells s t).set 13 (.int .i64 ((s.k : Int) + 1))).set 12 (.int .i64 (p9 : Int)) := by simp [Wk.cells, Sc.next, HN.out, ← hp9]
        rw [hcs]
        exact k2.set (j := 12) (.int .i64 (p9 : Int))
      have hM3' := hM3
      simp only [hp9i]
      generalize w2.setCell ⟨wb, 12, none⟩ (.int .i64 (p9 : Int)) = w3 at hM3 ⊢
      have HM3 := Lib.hid hM3
      clear hM3 hM3' HM2 c12'' f12''
      have c0 := HM3.out.2.1.cell 0 rfl
      have c2 := HM3.out.2.1.cell 2 rfl
      have c12 := HM3.out.2.1.cell 12 rfl
      have e12 : (((s.next m).pos : Nat) : Int) = p9 := by rw [← hp9, ← HN.out]; rfl
      rw [e12] at c12
      obtain ⟨ea, hea⟩ : ∃ ea, s.early = ea := ⟨_, rfl⟩
      have hea' : (s.next m).early = ea := hea
      rw [hea'] at c2
      have HEA := Lib.hid hea
      clear hea hea'
      by_cases hnl2 : n = left
      · have hpe : ((p9 : Int) == x.dat.size) = true := by simp; omega
        have hn0 : decide ((n : Int) > 0) = true := by simp; omega
        have hn1 : decide (0 < n) = true := by simp; omega
        cases ea
        · have ev : e = 0 := by rw [← HERR.out, if_neg hl0, if_neg (fun h => by rw [HEA.out] at h; simp at h)]
          subst ev
          subst hnl2
          go_quiet (fail)
          clear c0 c2 c12
          go_wp2
          refine bodyPost_ret (v := .tuple #[.slice (some ⟨nb, 0, none⟩) n cap, .int .i64 0]) (by simp [results, Tryd.f53, go_sem]) rfl ?_
          have k9 : Step (fun _ => False) w3 r (w3.drewN nq) r := (Step.refl _ HM3.out.1.bound).calm (below_drewN _ _ _)
          have k8 : Step (· = 0) w r (w3.drewN nq) r := HM3.out.1.trans (k9.mono (fun _ h => h.elim))
          exact ⟨_, _, _, by rw [HE.out], HN.out.symm, k8, HM3.out.2.2.step k9 (fun _ h => by cases h), HM3.out.2.1.step k9 hwb id⟩
        · have ev : (if s.broken then (363 : Int) else -1) = e := by rw [← HERR.out, if_neg hl0, if_pos (show n = left ∧ s.early = true from ⟨hnl2, HEA.out⟩)]; rfl
          have EV := Lib.hid ev
          clear ev
          subst hnl2
          go_quiet (fail)
          clear c0 c2 c12
          have HQ4 := Lib.hid (below_drewN w3.heap.size w3 nq)
          go_wp2_with fail
          have c3 := ((HM3.out.2.1.below (below_drewN w3.heap.size w3 nq)).cell 3 rfl)
          refine (endR c3 EV.out).mono ?_
          rintro e1 w4 ⟨rfl, hb4⟩
          have HB4 := Lib.hid hb4
          clear hb4 c3
          go_wp2
          refine bodyPost_ret (v := .tuple #[.slice (some ⟨nb, 0, none⟩) n cap, .int .i64 e]) (by simp [results, Tryd.f53, go_sem]) rfl ?_
          have k9 : Step (fun _ => False) w3 r w4 r := (Step.refl _ HM3.out.1.bound).calm (HQ4.out.trans (HB4.out.mono HQ4.out.size))
          have k8 : Step (· = 0) w r w4 r := HM3.out.1.trans (k9.mono (fun _ h => h.elim))
          exact ⟨_, _, _, by rw [HE.out], HN.out.symm, k8, HM3.out.2.2.step k9 (fun _ h => by cases h), HM3.out.2.1.step k9 hwb id⟩
      · have hpe : ((p9 : Int) == x.dat.size) = false := by simp; omega
        have ev : e = 0 := by rw [← HERR.out, if_neg hl0, if_neg (fun h => hnl2 h.1)]
        subst ev
        go_quiet (fail)
        clear c0 c2 c12
        go_wp2
        refine bodyPost_ret (v := .tuple #[.slice (some ⟨nb, 0, none⟩) n cap, .int .i64 0]) (by simp [results, Tryd.f53, go_sem]) rfl ?_
        have k9 : Step (fun _ => False) w3 r (w3.drewN nq) r := (Step.refl _ HM3.out.1.bound).calm (below_drewN _ _ _)
        have k8 : Step (· = 0) w r (w3.drewN nq) r := HM3.out.1.trans (k9.mono (fun _ h => h.elim))
        exact ⟨_, _, _, by rw [HE.out], HN.out.symm, k8, HM3.out.2.2.step k9 (fun _ h => by cases h), HM3.out.2.1.step k9 hwb id⟩

end Go.Proofs.YtigfgdefgnahpaaDoor
