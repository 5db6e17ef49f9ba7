/-
  fits, look, Valid, Parts (walks). Not a statement of the seat.
-/
import Derived.Test.YtbldidiibkcelaaGreatDoorSlices
import Derived.Test.YtbldidiibkcelaaGreatDoorBase
import Derived.Deep.CutBlock
namespace Go.Proofs.YtbldidiibkcelaaGreatDoor
open Go.RowKit

/-- what the kind's way leaves: the whole, or an early no -/
def fits2 (wh bi wo : Bool) (pl i b : Int) (t : Bs) (n : Nat) : Bool := (wh || i == 0) && ((bi || b == 0) && ((wo || t == []) && (decide (t.length ≤ 65535) && ((n : Int) == pl))))

theorem natE0 (n : Nat) : ((n : Int) == 0) = (n == 0) := by rw [Bool.eq_iff_iff]; simp
theorem natE1 (n : Nat) : ((n : Int) == 1) = (n == 1) := by rw [Bool.eq_iff_iff]; simp; omega
theorem natE2 (n : Nat) : ((n : Int) == 2) = (n == 2) := by rw [Bool.eq_iff_iff]; simp; omega

set_option maxRecDepth 100000 in
set_option maxHeartbeats 8000000 in
theorem fitsN (k i b : Int) (t : ByteArray) (l : Option Addr) (n c : Nat) (w : World) :
    Calls Tryz.prog 115 #[.agg #[.int .i64 k, .int .i64 i, .int .u64 b, .string t, .slice l n c]] w (fun e w' => e = .returned (.bool (fitsM k i b t.data.toList n)) ∧ Below w.heap.size w w') := by
  have hsz := Lib.size_eq t
  have HSZ := Lib.hid hsz
  have hW := Blk.new w #[.int .i64 k, .int .i64 i, .int .u64 b, .string t, .slice l n c] 25
  have hBW : Below w.heap.size w (w.alloc (.cells #[.int .i64 k, .int .i64 i, .int .u64 b, .string t, .slice l n c] 25)) := (Below.refl _ _).alloc (Nat.le_refl _) _
  clear hsz
  go_enter Tryz.func115, Tryz.ntmps115
  go_upto_region 2 with (fail)
  generalize w.alloc (.cells #[.int .i64 k, .int .i64 i, .int .u64 b, .string t, .slice l n c] 25) = w0 at *
  have c0 := hW.cell 0 rfl
  have c1 := hW.cell 1 rfl
  have c2 := hW.cell 2 rfl
  have c3 := hW.cell 3 rfl
  have c4 := hW.cell 4 rfl
  have HB := Lib.hid hBW
  clear hW hBW
  go_upto_block 0 with (fail)
  go_cut [3, 4, 5, 6] from 9 (fun s3 s4 s5 s6 wx => wx = w0 ∧ ∃ wh bi wo pl, s3 = .bool wh ∧ s4 = .bool bi ∧ s5 = .bool wo ∧ s6 = .int .i64 pl ∧ fitsM k i b t.data.toList n = fits2 wh bi wo pl i b t.data.toList n)
  · by_cases hk : k = 0
    · subst hk
      go_wp2_with fail
      go_meet
      case rel => exact ⟨rfl, false, false, false, 0, rfl, rfl, rfl, rfl, by simp [fitsM, fits2, Bool.and_assoc, natE0]⟩
    by_cases hk : k = 1
    · subst hk
      go_wp2_with fail
      go_meet
      case rel => exact ⟨rfl, true, false, false, 0, rfl, rfl, rfl, rfl, by simp [fitsM, fits2, Bool.and_assoc, natE0]⟩
    by_cases hk : k = 2
    · subst hk
      go_wp2_with fail
      go_meet
      case rel => exact ⟨rfl, true, false, false, 0, rfl, rfl, rfl, rfl, by simp [fitsM, fits2, Bool.and_assoc, natE0]⟩
    by_cases hk : k = 3
    · subst hk
      go_wp2_with fail
      go_meet
      case rel => exact ⟨rfl, false, true, false, 0, rfl, rfl, rfl, rfl, by simp [fitsM, fits2, Bool.and_assoc, natE0]⟩
    by_cases hk : k = 4
    · subst hk
      go_wp2_with fail
      go_meet
      case rel => exact ⟨rfl, false, false, true, 0, rfl, rfl, rfl, rfl, by simp [fitsM, fits2, Bool.and_assoc, natE0]⟩
    by_cases hk : k = 5
    · subst hk
      go_wp2_with fail
      go_meet
      case rel => exact ⟨rfl, false, false, true, 0, rfl, rfl, rfl, rfl, by simp [fitsM, fits2, Bool.and_assoc, natE0]⟩
    by_cases hk : k = 7
    · subst hk
      go_wp2_with fail
      go_meet
      case rel => exact ⟨rfl, false, false, true, 0, rfl, rfl, rfl, rfl, by simp [fitsM, fits2, Bool.and_assoc, natE0]⟩
    by_cases hk : k = 8
    · subst hk
      go_wp2_with fail
      go_meet
      case rel => exact ⟨rfl, false, false, false, (n : Int), rfl, rfl, rfl, rfl, by simp [fitsM, fits2, Bool.and_assoc]⟩
    by_cases hk : k = 9
    · subst hk
      go_wp2_with fail
      go_meet
      case rel => exact ⟨rfl, false, false, false, 2, rfl, rfl, rfl, rfl, by simp [fitsM, fits2, Bool.and_assoc, natE2]⟩
    by_cases hk : k = 10
    · subst hk
      go_wp2_with fail
      go_meet
      case rel => exact ⟨rfl, true, false, true, 0, rfl, rfl, rfl, rfl, by simp [fitsM, fits2, Bool.and_assoc, natE0]⟩
    by_cases hk : k = 12
    · subst hk
      go_wp2_with fail
      go_meet
      case rel => exact ⟨rfl, false, false, false, 0, rfl, rfl, rfl, rfl, by simp [fitsM, fits2, Bool.and_assoc, natE0]⟩
    by_cases hk : k = 13
    · subst hk
      go_wp2_with fail
      go_meet
      case rel => exact ⟨rfl, false, false, false, 0, rfl, rfl, rfl, rfl, by simp [fitsM, fits2, Bool.and_assoc, natE0]⟩
    by_cases hk : k = 6
    · subst hk
      by_cases h0 : i = 0
      · subst h0
        go_wp2_with fail
        go_meet
        case rel => exact ⟨rfl, true, false, false, 0, rfl, rfl, rfl, rfl, by simp [fitsM, fits2, Bool.and_assoc, natE0]⟩
      · by_cases h1 : i = 1
        · subst h1
          go_wp2_with fail
          go_meet
          case rel => exact ⟨rfl, true, false, false, 0, rfl, rfl, rfl, rfl, by simp [fitsM, fits2, Bool.and_assoc, natE0]⟩
        · have hi0 : (i != 0) = true := by simp; omega
          have hi1 : (i != 1) = true := by simp; omega
          go_wp2_with fail
          go_ret
          exact ⟨by simp [fitsM, h0, h1], HB.out⟩
    by_cases hk : k = 11
    · subst hk
      by_cases h0 : i < 1
      · go_wp2_with fail
        go_ret
        exact ⟨by simp [fitsM]; omega, HB.out⟩
      · have h1 : 1 ≤ i := by omega
        go_wp2_with fail
        go_meet
        case rel => exact ⟨rfl, true, false, false, 1, rfl, rfl, rfl, rfl, by simp [fitsM, fits2, h1, Bool.and_assoc, natE1]⟩
    have h0 : (k == 0) = false := by simp; omega
    have h1 : (k == 1) = false := by simp; omega
    have h2 : (k == 2) = false := by simp; omega
    have h3 : (k == 3) = false := by simp; omega
    have h4 : (k == 4) = false := by simp; omega
    have h5 : (k == 5) = false := by simp; omega
    have h6 : (k == 6) = false := by simp; omega
    have h7 : (k == 7) = false := by simp; omega
    have h8 : (k == 8) = false := by simp; omega
    have h9 : (k == 9) = false := by simp; omega
    have h10 : (k == 10) = false := by simp; omega
    have h11 : (k == 11) = false := by simp; omega
    have h12 : (k == 12) = false := by simp; omega
    have h13 : (k == 13) = false := by simp; omega
    have hfit : fitsM k i b t.data.toList n = false := by
      have : ¬ (0 ≤ k ∧ k ≤ 13) := by omega
      unfold fitsM
      simp only [Bool.and_eq_false_iff]
      refine .inl (.inl (.inl (.inl (.inl (.inl (.inl ?_))))))
      simp; omega
    go_wp2_with fail
    go_ret
    exact ⟨by rw [hfit]; rfl, HB.out⟩
  · obtain ⟨rfl, wh, bi, wo, pl, rfl, rfl, rfl, rfl, hfit⟩ := hcut
    have HFIT := Lib.hid hfit
    have hts : (t.data.toList == []) = (t.toList == []) := by rw [Lib.toList_data]
    have HTS := Lib.hid hts
    clear hts hfit
    cases wh
    · cases hi : (i == 0)
      · go_wp2_with fail
        go_ret
        exact ⟨by rw [HFIT.out]; simp [fits2, HTS.out, hi], HB.out⟩
      · cases bi
        · cases hb : (b == 0)
          · go_wp2_with fail
            go_ret
            exact ⟨by rw [HFIT.out]; simp [fits2, HTS.out, hi, hb], HB.out⟩
          · cases wo
            · cases ht : (t.toList == [])
              · go_wp2_with fail
                go_ret
                exact ⟨by rw [HFIT.out]; simp [fits2, HTS.out, hi, hb, ht], HB.out⟩
              · by_cases hl : t.size ≤ 65535
                · have hli : (t.size : Int) ≤ 65535 := by omega
                  cases hn : ((n : Int) == pl)
                  · go_wp2_with fail
                    go_ret
                    exact ⟨by rw [HFIT.out]; simp [fits2, HTS.out, hi, hb, ht, hl, hn], HB.out⟩
                  · go_wp2_with fail
                    go_ret
                    exact ⟨by rw [HFIT.out]; simp [fits2, HTS.out, hi, hb, ht, hl, hn], HB.out⟩
                · have hli : ¬ (t.size : Int) ≤ 65535 := by omega
                  go_wp2_with fail
                  go_ret
                  exact ⟨by rw [HFIT.out]; simp [fits2, HTS.out, hi, hb, ht, hl], HB.out⟩
            · by_cases hl : t.size ≤ 65535
              · have hli : (t.size : Int) ≤ 65535 := by omega
                cases hn : ((n : Int) == pl)
                · go_wp2_with fail
                  go_ret
                  exact ⟨by rw [HFIT.out]; simp [fits2, HTS.out, hi, hb, hl, hn], HB.out⟩
                · go_wp2_with fail
                  go_ret
                  exact ⟨by rw [HFIT.out]; simp [fits2, HTS.out, hi, hb, hl, hn], HB.out⟩
              · have hli : ¬ (t.size : Int) ≤ 65535 := by omega
                go_wp2_with fail
                go_ret
                exact ⟨by rw [HFIT.out]; simp [fits2, HTS.out, hi, hb, hl], HB.out⟩
        · cases wo
          · cases ht : (t.toList == [])
            · go_wp2_with fail
              go_ret
              exact ⟨by rw [HFIT.out]; simp [fits2, HTS.out, hi, ht], HB.out⟩
            · by_cases hl : t.size ≤ 65535
              · have hli : (t.size : Int) ≤ 65535 := by omega
                cases hn : ((n : Int) == pl)
                · go_wp2_with fail
                  go_ret
                  exact ⟨by rw [HFIT.out]; simp [fits2, HTS.out, hi, ht, hl, hn], HB.out⟩
                · go_wp2_with fail
                  go_ret
                  exact ⟨by rw [HFIT.out]; simp [fits2, HTS.out, hi, ht, hl, hn], HB.out⟩
              · have hli : ¬ (t.size : Int) ≤ 65535 := by omega
                go_wp2_with fail
                go_ret
                exact ⟨by rw [HFIT.out]; simp [fits2, HTS.out, hi, ht, hl], HB.out⟩
          · by_cases hl : t.size ≤ 65535
            · have hli : (t.size : Int) ≤ 65535 := by omega
              cases hn : ((n : Int) == pl)
              · go_wp2_with fail
                go_ret
                exact ⟨by rw [HFIT.out]; simp [fits2, HTS.out, hi, hl, hn], HB.out⟩
              · go_wp2_with fail
                go_ret
                exact ⟨by rw [HFIT.out]; simp [fits2, HTS.out, hi, hl, hn], HB.out⟩
            · have hli : ¬ (t.size : Int) ≤ 65535 := by omega
              go_wp2_with fail
              go_ret
              exact ⟨by rw [HFIT.out]; simp [fits2, HTS.out, hi, hl], HB.out⟩
    · cases bi
      · cases hb : (b == 0)
        · go_wp2_with fail
          go_ret
          exact ⟨by rw [HFIT.out]; simp [fits2, HTS.out, hb], HB.out⟩
        · cases wo
          · cases ht : (t.toList == [])
            · go_wp2_with fail
              go_ret
              exact ⟨by rw [HFIT.out]; simp [fits2, HTS.out, hb, ht], HB.out⟩
            · by_cases hl : t.size ≤ 65535
              · have hli : (t.size : Int) ≤ 65535 := by omega
                cases hn : ((n : Int) == pl)
                · go_wp2_with fail
                  go_ret
                  exact ⟨by rw [HFIT.out]; simp [fits2, HTS.out, hb, ht, hl, hn], HB.out⟩
                · go_wp2_with fail
                  go_ret
                  exact ⟨by rw [HFIT.out]; simp [fits2, HTS.out, hb, ht, hl, hn], HB.out⟩
              · have hli : ¬ (t.size : Int) ≤ 65535 := by omega
                go_wp2_with fail
                go_ret
                exact ⟨by rw [HFIT.out]; simp [fits2, HTS.out, hb, ht, hl], HB.out⟩
          · by_cases hl : t.size ≤ 65535
            · have hli : (t.size : Int) ≤ 65535 := by omega
              cases hn : ((n : Int) == pl)
              · go_wp2_with fail
                go_ret
                exact ⟨by rw [HFIT.out]; simp [fits2, HTS.out, hb, hl, hn], HB.out⟩
              · go_wp2_with fail
                go_ret
                exact ⟨by rw [HFIT.out]; simp [fits2, HTS.out, hb, hl, hn], HB.out⟩
            · have hli : ¬ (t.size : Int) ≤ 65535 := by omega
              go_wp2_with fail
              go_ret
              exact ⟨by rw [HFIT.out]; simp [fits2, HTS.out, hb, hl], HB.out⟩
      · cases wo
        · cases ht : (t.toList == [])
          · go_wp2_with fail
            go_ret
            exact ⟨by rw [HFIT.out]; simp [fits2, HTS.out, ht], HB.out⟩
          · by_cases hl : t.size ≤ 65535
            · have hli : (t.size : Int) ≤ 65535 := by omega
              cases hn : ((n : Int) == pl)
              · go_wp2_with fail
                go_ret
                exact ⟨by rw [HFIT.out]; simp [fits2, HTS.out, ht, hl, hn], HB.out⟩
              · go_wp2_with fail
                go_ret
                exact ⟨by rw [HFIT.out]; simp [fits2, HTS.out, ht, hl, hn], HB.out⟩
            · have hli : ¬ (t.size : Int) ≤ 65535 := by omega
              go_wp2_with fail
              go_ret
              exact ⟨by rw [HFIT.out]; simp [fits2, HTS.out, ht, hl], HB.out⟩
        · by_cases hl : t.size ≤ 65535
          · have hli : (t.size : Int) ≤ 65535 := by omega
            cases hn : ((n : Int) == pl)
            · go_wp2_with fail
              go_ret
              exact ⟨by rw [HFIT.out]; simp [fits2, HTS.out, hl, hn], HB.out⟩
            · go_wp2_with fail
              go_ret
              exact ⟨by rw [HFIT.out]; simp [fits2, HTS.out, hl, hn], HB.out⟩
          · have hli : ¬ (t.size : Int) ≤ 65535 := by omega
            go_wp2_with fail
            go_ret
            exact ⟨by rw [HFIT.out]; simp [fits2, HTS.out, hl], HB.out⟩
end Go.Proofs.YtbldidiibkcelaaGreatDoor
