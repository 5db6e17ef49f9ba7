/-
  The walk of sunk (the document's). Not a statement of the seat.
-/
import Derived.Test.YtigfgdefgnahpaaDoorWork
namespace Go.Proofs.YtigfgdefgnahpaaDoor
open Go.RowKit

set_option maxRecDepth 100000 in
set_option maxHeartbeats 2000000 in
theorem sunkR {wb n : Nat} {x : Wk} {l : List Wr} {s : Sc} {k : List Int} {t : Tank} {w : World} {r : Own} (hW : WorkAt w r wb x l s k t) (hk : ∀ c ∈ k, 0 ≤ c ∧ c ≤ 1000000) (hn : n ≤ 1000000) (hbnd : Bnd w r) :
    Calls Tryd.prog 51 #[.pointer (some ⟨wb, 0, none⟩), .int .i64 n] w (PostV (.tuple #[]) (fun w' => Step (· = 4) w r w' r ∧ WorkAt w' r wb x l s (sunkM x.qs n k) t)) := by
  have HW := Lib.hid hW
  obtain ⟨hwb, hB, hd, hZ, hP, hQ, hR1, hR2, hR3, hR4, hT, hS, hO⟩ := hW
  have hql := hQ.len
  have hkl : k.length = x.qn := by have := hR4.1.rd.len; simp [I3] at this; omega
  have hc4 := hR4.1.rd.le
  have hm4 := hR4.1.rd.max
  have hcq := hQ.1.1.le
  have hmq := hQ.1.1.max
  unfold maxLen at hm4 hmq
  have hqk : x.qs.length = k.length := by omega
  have hwork : ∀ wr, Step (· = 4) w r wr r → wr.cell? ⟨wb, 17, none⟩ = some (.slice x.a4 x.qn x.c4) ∧ wr.cell? ⟨wb, 11, none⟩ = some (.slice x.qa x.qn x.qc) ∧ Pipes wr r x.qa x.qn x.qc x.qs := fun wr g =>
    ⟨(hB.step g hwb (by omega)).cell 17 rfl, (hB.step g hwb (by omega)).cell 11 rfl, hQ.step g⟩
  have HK := Lib.hid hwork
  have HR4 := Lib.hid hR4
  have HKB := Lib.hid hk
  have HQK := Lib.hid hqk
  have HKL := Lib.hid hkl
  have HBND := Lib.hid hbnd
  have hw0 := hwork w (Step.refl _ hbnd)
  obtain ⟨xa4, hxa4⟩ : ∃ a, x.a4 = a := ⟨_, rfl⟩
  clear hwb hB hd hZ hP hQ hR1 hR2 hR3 hR4 hT hS hO hwork hk hql hkl hqk hw0 hbnd hxa4
  go_enter Tryd.func51, Tryd.ntmps51
  go_wp2_with fail
  go_loopw [4] (fun ix wr => ∃ i, i ≤ x.qn ∧ ix = .int .i64 ((i : Nat) : Int) ∧ Step (· = 4) w r wr r ∧ Row 0 wr 1 x.a4 x.qn x.c4 (I3 (sunkI x.qs n i k))) (fun ix _ => x.qn - (intOf ix).toNat)
  case atStart => exact ⟨0, Nat.zero_le _, rfl, Step.refl _ HBND.out, by simpa [sunkI, sunkM] using HR4.out.1⟩
  case round =>
    obtain ⟨i, hi, rfl, g, hrow⟩ := hrel
    obtain ⟨c17, c11, hQx⟩ := HK.out wr g
    have HG := Lib.hid g
    have HROW := Lib.hid hrow
    by_cases hlt : i < x.qn
    · obtain ⟨b, off, p, hpa, hb, hpk, hmem, hcell⟩ := hQx.at hlt
      have q0 := hcell 0 (by omega)
      simp only [Pp.cells, List.getElem?_cons_zero, Nat.add_zero] at q0
      rw [hpa] at c11
      have hik : i < k.length := by have := HKL.out; omega
      obtain ⟨b2, off2, ha4, _, hb2, _, hfr⟩ := hrow.at1 hlt
      obtain ⟨b3, off3, ha4', hb3, hval⟩ := hrow.rd.at1 hlt
      rw [ha4] at ha4' c17
      cases ha4'
      have hv2 : (I3 (sunkI x.qs n i k))[i]? = some (.int .i64 k[i]) := by
        have := sunkI_at (n := n) HQK.out hik
        simp [I3, this, hik]
      rw [hv2] at hval
      have hkb := HKB.out k[i] (List.getElem_mem _)
      have HKI := Lib.hid (show k[i]? = some k[i] by simp [hik])
      generalize k[i] = c at hval hkb HKI
      obtain ⟨hkb1, hkb2⟩ := hkb
      have HA4 := Lib.hid ha4
      have HPK := Lib.hid hpk
      have hki : (i : Int) < x.qn := by omega
      have hsc := sunkI_succ (n := n) HQK.out hpk HKI.out
      have HSC := Lib.hid hsc
      clear hcell hmem hpk hrow g hQx hb hv2 hpa ha4 hsc
      by_cases h2 : p.op = 2
      · have h2' : (p.op == 2) = true := by simpa using h2
        have HS2 := Lib.hid (show sunkI x.qs n (i + 1) k = (sunkI x.qs n i k).set i (c + n) by rw [HSC.out, if_pos h2])
        clear h2
        go_wp2_with fail
        go_region
        all_goals
          go_wp2
          go_roundw
          case rel =>
            have ho4 : r b2 = some 4 := HR4.out.2 b2 (by rw [HA4.out]; rfl)
            refine ⟨i + 1, by omega, by go_num, HG.out.drew.put _ (fun _ => ⟨4, ho4, rfl⟩), ?_⟩
            have h1 := HROW.out.drew.set HA4.out (j := i) (.int .i64 (c + n))
            have h3 : (I3 (sunkI x.qs n i k)).set i (.int .i64 (c + n)) = I3 (sunkI x.qs n (i + 1) k) := by
              rw [HS2.out]; simp [I3, List.map_set]
            rw [h3] at h1
            exact h1
          case measure => simp [intOf]; omega
      · have h2' : (p.op == 2) = false := by simpa using h2
        have HS2 := Lib.hid (show sunkI x.qs n (i + 1) k = (sunkI x.qs n i k).set i c by rw [HSC.out, if_neg h2])
        clear h2
        go_wp2_with fail
        go_roundw
        case rel =>
          refine ⟨i + 1, by omega, by go_num, HG.out, ?_⟩
          have he : (sunkI x.qs n i k).set i c = sunkI x.qs n i k := by
            have h1 := sunkI_at (n := n) HQK.out hik
            rw [HKI.out] at h1
            apply List.ext_getElem?
            intro j
            rw [List.getElem?_set]
            split
            · rename_i hj
              subst hj
              rw [h1, if_pos (List.getElem?_eq_some_iff.1 h1).1]
            · rfl
          rw [HS2.out, he]
          exact HROW.out
        case measure => simp [intOf]; omega
    · obtain rfl : i = x.qn := by omega
      go_wp2
      refine bodyPost_ret (v := .tuple #[]) (by simp [results, Tryd.f51, go_sem]) rfl ?_
      obtain ⟨hwb, hB, hd, hZ, hP, hQ, hR1, hR2, hR3, hR4, hT, hS, hO⟩ := HW.out
      have g := HG.out
      have hrow := HROW.out
      have he : sunkI x.qs n x.qn k = sunkM x.qs n k := by rw [← HKL.out]; exact sunkI_done HQK.out
      rw [he] at hrow
      refine ⟨rfl, g, hwb, hB.step g hwb (by omega), hd, hZ.step g (fun _ h => by cases h), hP.step g, hQ.step g, hR1.step g (by omega), hR2.step g (by omega), hR3.step g (by omega), ⟨hrow, hR4.2⟩, hT.step g (by omega), fun j tk hj => ?_, hO⟩
      obtain ⟨rdj, bkj, hTj⟩ := hS j tk hj
      exact ⟨rdj, bkj, hTj.step g (by omega)⟩
end Go.Proofs.YtigfgdefgnahpaaDoor
