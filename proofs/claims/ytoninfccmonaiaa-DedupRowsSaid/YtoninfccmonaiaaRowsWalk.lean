/-
  The walk of the law DedupRows. Not a statement of the seat.
-/
import Derived.Test.YtoninfccmonaiaaLast
namespace Go.Proofs.Ytoninfccmonaiaa
open Go.RowKit

set_option maxHeartbeats 1000000 in
set_option maxRecDepth 100000 in
theorem rows (sz : Int) (ids : List Int) (a : Option Addr) (n cap : Nat) (w : World) (hz : Ints w a n cap ids) :
    Calls Try.prog 4 #[.int .i64 sz, .slice a n cap] w (RB w (.bool true)) := by
  obtain ⟨i0, hi, hy0, hy1, hy2⟩ := info_parts Try.info2
  have hlen := hz.len
  obtain ⟨hcap, hmax⟩ := hz.bounds
  have HL := Lib.hid hlen; clear hlen
  have hat := fun k (hk : k < n) => hz.at hk
  have HAT := Lib.hid hat; clear hat hz
  obtain ⟨z, hz1, hz2, hze⟩ := one_mod sz 40 (by omega) (by omega)
  have hz3 : z ≤ 40 := by omega
  have HZE := Lib.hid hze; clear hze hz2
  go_enter Try.func4, Try.ntmps4
  go_wp2_with fail
  rw [HZE.out]
  generalize wrap64 ((IntKind.u64.wrap sz).tmod 40) = y1
  generalize (IntKind.u64.wrap sz).tmod 40 = y2
  generalize IntKind.u64.wrap sz = y3
  clear HZE
  go_loopw [6, 19] (fun f t wr => ∃ (k : Nat) (fr : List Int) (af ast : Option Addr) (cf cst : Nat), k ≤ n ∧ k ≤ 300 ∧ t = .int .i64 k ∧ f = .slice af fr.length cf ∧ fr.length ≤ k ∧ RowsAt w z fr af cf ast cst wr) (fun _ t _ => n - (intOf t).toNat)
  case atStart => exact ⟨0, [], none, none, 0, 0, Nat.zero_le _, Nat.zero_le _, rfl, rfl, Nat.le_refl _, RowsAt.start w z⟩
  case round =>
    obtain ⟨k, fr, af, ast, cf, cst, hk, hk3, rfl, rfl, hfl, hat⟩ := hrel
    have HA := Lib.hid hat; clear hat
    by_cases hlt : k < n
    · by_cases hle : k < 300
      · obtain ⟨b, off, rfl, hb, hci⟩ := HAT.out k hlt
        have hci' : wr.cell? ⟨b, off + k, none⟩ = some (.int .i64 (ids[k]?.getD 0)) := (HA.out.below.cell (p := ⟨b, off + k, none⟩) hb).trans hci
        clear hci
        generalize hid : ids[k]?.getD 0 = id at hci'
        clear hid
        have hb3 : decide ((300 : Int) ≤ (k : Int)) = false := by simp; omega
        obtain ⟨s0, hs0⟩ : ∃ s0, fr.length - z = s0 := ⟨_, rfl⟩
        have HS := Lib.hid hs0; clear hs0
        have hsl : s0 ≤ fr.length := by have := HS.out; omega
        by_cases hzl : z < fr.length
        all_goals
          go_wp2_with fail
          go_loop [9, 10] (fun wa t => ∃ q : Nat, s0 ≤ q ∧ q ≤ fr.length ∧ t = .int .i64 q ∧ wa = .bool (seenTo fr s0 q id)) (fun _ t => fr.length - (intOf t).toNat)
          case atStart => exact ⟨s0, Nat.le_refl _, hsl, by have := HS.out; first | (congr 1; omega) | (simp; omega), by rw [seenTo_start]⟩
          case round =>
            obtain ⟨q, hq1, hq2, rfl, rfl⟩ := hrel
            by_cases hql : q < fr.length
            · obtain ⟨b2, off2, rfl, hb2, hc2⟩ := Ints.at (show Ints wr af fr.length cf fr from HA.out.row.rd) hql
              have hst := seenTo_step (id := id) hq1 hql
              have HST := Lib.hid hst; clear hst
              cases hsw : seenTo fr s0 q id
              · have HSW := Lib.hid hsw; clear hsw
                go_wp2
                go_round
                case rel => exact ⟨q + 1, by omega, by omega, by go_num, by rw [HST.out, HSW.out]; simp [hql]⟩
                case measure => simp [intOf]; omega
              · have HSW := Lib.hid hsw; clear hsw
                go_wp2
                go_round
                case rel => exact ⟨q + 1, by omega, by omega, by go_num, by rw [HST.out, HSW.out]; rfl⟩
                case measure => simp [intOf]; omega
            · obtain rfl : q = fr.length := by omega
              have hse := seenTo_end fr z id
              rw [HS.out] at hse
              rw [hse]
              clear hse
              obtain ⟨m, hm⟩ : ∃ m, (lastN fr z).length = m := ⟨_, rfl⟩
              have hm1 : m ≤ 40 := by rw [← hm, lastN_length]; omega
              have hbx : wr.cell? ⟨w.heap.size, 0, none⟩ = some (.slice ast m cst) := by rw [← hm]; exact HA.out.box
              have hst : Row (w.heap.size + 1) wr 1 ast m cst (I64 (lastN fr z)) := by rw [← hm]; exact HA.out.st
              have HST := Lib.hid hst; clear hst
              have HM := Lib.hid hm; clear hm
              have hbf := HA.out.boxF
              have hsq := seenL_last fr z id hz1
              cases hmb : memB (lastN fr z) id
              · rw [hmb, if_neg (by simp)] at hsq
                obtain ⟨m2, hm2⟩ : ∃ m2, (lastN (fr ++ [id]) z).length = m2 := ⟨_, rfl⟩
                have HM2 := Lib.hid hm2; clear hm2
                have HSQ := Lib.hid hsq; clear hsq
                have HMB := Lib.hid hmb; clear hmb
                go_wp2_with fail
                refine (seen_to HST.out.rd (by omega) (by omega) HSQ.out HM2.out HMB.out).mono ?_
                rintro e w1 ⟨a1, c1, rfl, hr1, hb1⟩
                have hx1 := cellAt hb1 hbx
                have hf1 := freeAt hb1 hbx hbf
                have HR1 := Lib.hid hr1; clear hr1
                have HB1 := Lib.hid hb1; clear hb1
                clear hbx hbf
                have hsw := HA.out.size
                have hs1 := HB1.out.size
                have hlt1 : w.heap.size < w1.heap.size := by omega
                go_wp2_with (at_builtin; go_must (refine wpList_append_row rfl _ _ 22 22 rfl 2 i0 (.int .i64 0) 1 8 Try.underlying22 hi hy0 hy1 hy2 rfl rfl (((HA.out.row.below HB1.out).put (p := ⟨w.heap.size, 0, none⟩) (by simp) (.slice a1 m2 c1)).alloc _) 1 _ (Src.oneAt Try.underlying22 (.int .i64 id) 2 rfl (by simp)) (by unfold maxLen; omega) (by omega) (by simp; omega) ?_; intro a4 c4 w4 hrow hgr hbk; have HR4 := Lib.hid hrow; have HG4 := Lib.hid hgr; have HK4 := Lib.hid hbk; clear hrow hgr hbk))
                go_roundw
                case rel => exact ⟨k + 1, fr ++ [id], a4, a1, c4, c1, by omega, by omega, by go_num, by simp, by simp; omega, HA.out.fresh HB1.out HR1.out HM2.out HR4.out HG4.out HK4.out⟩
                case measure => simp [intOf]; omega
              · rw [hmb, if_pos rfl] at hsq
                have HSQ := Lib.hid hsq; clear hsq
                have HMB := Lib.hid hmb; clear hmb
                go_wp2_with fail
                refine (seen_to HST.out.rd (by omega) (by omega) HSQ.out HM.out HMB.out).mono ?_
                rintro e w1 ⟨a1, c1, rfl, hr1, hb1⟩
                have hx1 := cellAt hb1 hbx
                have hf1 := freeAt hb1 hbx hbf
                have HR1 := Lib.hid hr1; clear hr1
                have HB1 := Lib.hid hb1; clear hb1
                clear hbx hbf
                go_wp2_with fail
                go_roundw
                case rel => exact ⟨k + 1, fr, af, a1, cf, c1, by omega, by omega, by go_num, rfl, by omega, HA.out.known HB1.out HR1.out HM.out⟩
                case measure => simp [intOf]; omega
      · have hb3 : decide ((300 : Int) ≤ (k : Int)) = true := by simp; omega
        obtain ⟨b, off, rfl, hb, hci⟩ := HAT.out k hlt
        have hci' : wr.cell? ⟨b, off + k, none⟩ = some (.int .i64 (ids[k]?.getD 0)) := (HA.out.below.cell (p := ⟨b, off + k, none⟩) hb).trans hci
        clear hci
        go_wp2_with fail
        refine (awake _).mono ?_
        rintro e w2 ⟨rfl, hb2⟩
        have HB2 := Lib.hid hb2; clear hb2
        go_wp2
        go_ret
        exact ⟨rfl, HA.out.below.trans (HB2.out.mono (by have := HA.out.size; omega))⟩
    · go_wp2_with fail
      refine (awake _).mono ?_
      rintro e w2 ⟨rfl, hb2⟩
      have HB2 := Lib.hid hb2; clear hb2
      go_wp2
      go_ret
      exact ⟨rfl, HA.out.below.trans (HB2.out.mono (by have := HA.out.size; omega))⟩
end Go.Proofs.Ytoninfccmonaiaa
