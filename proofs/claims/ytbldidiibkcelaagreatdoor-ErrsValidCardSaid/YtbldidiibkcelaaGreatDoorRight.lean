/-
  The document's right (walk). Not a statement of the seat.
-/
import Derived.Test.YtbldidiibkcelaaGreatDoorCount
namespace Go.Proofs.YtbldidiibkcelaaGreatDoor
open Go.RowKit

def rightM : Fo → Bool
  | .nil => true
  | .cons k i b t kids rest => (fitsM k i b t kids.len && rightM kids) && rightM rest
def fits3 (wh bi wo : Bool) (pl i b : Int) (t : Bs) (n : Nat) : Bool := fits2 wh bi wo (if pl < 0 then (n : Int) else pl) i b t n
def RTOK (kids : Fo) : Prop := ∀ (k i b : Int) (t : Bs) (l : Option Addr) (n c : Nat) (S : Nat → Prop) (w : World), FoAt S w kids l n c → (∀ x, S x → x < w.heap.size) →
  Calls Tryz.prog 100 #[.agg #[.int .i64 k, .int .i64 i, .int .u64 b, .string ⟨t.toArray⟩, .slice l n c]] w (fun e w' => e = .returned (.bool (fitsM k i b t n && rightM kids)) ∧ Below w.heap.size w w')
def RTRel (kids : Fo) (w : World) (t89 : Value) (wr : World) : Prop := ∃ (dn rest : Fo), t89 = .int .i64 (dn.len : Nat) ∧ kids = dn.app rest ∧ Below w.heap.size w wr ∧ rightM kids = rightM rest

set_option maxRecDepth 100000 in
set_option maxHeartbeats 16000000 in
theorem rightN {kids : Fo} (hall : kids.All RTOK) : RTOK kids := by
  intro k i b tb l n c S w hF hS
  have hlen := hF.len
  obtain ⟨t, ht0⟩ : ∃ t : ByteArray, t = ⟨tb.toArray⟩ := ⟨_, rfl⟩
  have htb : tb = t.data.toList := by rw [ht0]
  rw [← ht0]
  subst htb
  have hsz := Lib.size_eq t
  have HSZ := Lib.hid hsz
  have hW := Blk.new w #[.int .i64 k, .int .i64 i, .int .u64 b, .string t, .slice l n c] 25
  have hBW : Below w.heap.size w (w.alloc (.cells #[.int .i64 k, .int .i64 i, .int .u64 b, .string t, .slice l n c] 25)) := (Below.refl _ _).alloc (Nat.le_refl _) _
  have HF := Lib.hid hF
  have HS := Lib.hid hS
  have HLEN := Lib.hid hlen
  have HALL := Lib.hid hall
  clear hsz hF hS hlen hall ht0
  generalize hfm : fitsM k i b t.data.toList n = fm
  have HFM := Lib.hid hfm
  clear hfm
  go_enter Tryz.func100, Tryz.ntmps100
  go_upto_region 2 with (fail)
  generalize w.alloc (.cells #[.int .i64 k, .int .i64 i, .int .u64 b, .string t, .slice l n c] 25) = w0 at *
  have c0 := hW.cell 0 rfl
  have c1 := hW.cell 1 rfl
  have c2 := hW.cell 2 rfl
  have c3 := hW.cell 3 rfl
  have c4 := hW.cell 4 rfl
  have HB := Lib.hid hBW
  clear hW hBW
  go_upto_block 0 with (fail)
  go_cut [3, 4, 5, 6] from 10 (fun s3 s4 s5 s6 wx => wx = w0 ∧ ∃ wh bi wo pl, s3 = .bool wh ∧ s4 = .bool bi ∧ s5 = .bool wo ∧ s6 = .int .i64 pl ∧ fitsM k i b t.data.toList n = fits3 wh bi wo pl i b t.data.toList n)
  · by_cases hk : k = 0
    · subst hk
      go_wp2_with fail
      go_meet
      case rel => exact ⟨rfl, false, false, false, 0, rfl, rfl, rfl, rfl, by simp [fitsM, fits3, fits2, Bool.and_assoc, natE0]⟩
    by_cases hk : k = 1
    · subst hk
      go_wp2_with fail
      go_meet
      case rel => exact ⟨rfl, true, false, false, 0, rfl, rfl, rfl, rfl, by simp [fitsM, fits3, fits2, Bool.and_assoc, natE0]⟩
    by_cases hk : k = 2
    · subst hk
      go_wp2_with fail
      go_meet
      case rel => exact ⟨rfl, true, false, false, 0, rfl, rfl, rfl, rfl, by simp [fitsM, fits3, fits2, Bool.and_assoc, natE0]⟩
    by_cases hk : k = 3
    · subst hk
      go_wp2_with fail
      go_meet
      case rel => exact ⟨rfl, false, true, false, 0, rfl, rfl, rfl, rfl, by simp [fitsM, fits3, fits2, Bool.and_assoc, natE0]⟩
    by_cases hk : k = 4
    · subst hk
      go_wp2_with fail
      go_meet
      case rel => exact ⟨rfl, false, false, true, 0, rfl, rfl, rfl, rfl, by simp [fitsM, fits3, fits2, Bool.and_assoc, natE0]⟩
    by_cases hk : k = 5
    · subst hk
      go_wp2_with fail
      go_meet
      case rel => exact ⟨rfl, false, false, true, 0, rfl, rfl, rfl, rfl, by simp [fitsM, fits3, fits2, Bool.and_assoc, natE0]⟩
    by_cases hk : k = 7
    · subst hk
      go_wp2_with fail
      go_meet
      case rel => exact ⟨rfl, false, false, true, 0, rfl, rfl, rfl, rfl, by simp [fitsM, fits3, fits2, Bool.and_assoc, natE0]⟩
    by_cases hk : k = 8
    · subst hk
      go_wp2_with fail
      go_meet
      case rel => exact ⟨rfl, false, false, false, (-1), rfl, rfl, rfl, rfl, by simp [fitsM, fits3, fits2, Bool.and_assoc]⟩
    by_cases hk : k = 9
    · subst hk
      go_wp2_with fail
      go_meet
      case rel => exact ⟨rfl, false, false, false, 2, rfl, rfl, rfl, rfl, by simp [fitsM, fits3, fits2, Bool.and_assoc, natE2]⟩
    by_cases hk : k = 10
    · subst hk
      go_wp2_with fail
      go_meet
      case rel => exact ⟨rfl, true, false, true, 0, rfl, rfl, rfl, rfl, by simp [fitsM, fits3, fits2, Bool.and_assoc, natE0]⟩
    by_cases hk : k = 12
    · subst hk
      go_wp2_with fail
      go_meet
      case rel => exact ⟨rfl, false, false, false, 0, rfl, rfl, rfl, rfl, by simp [fitsM, fits3, fits2, Bool.and_assoc, natE0]⟩
    by_cases hk : k = 13
    · subst hk
      go_wp2_with fail
      go_meet
      case rel => exact ⟨rfl, false, false, false, 0, rfl, rfl, rfl, rfl, by simp [fitsM, fits3, fits2, Bool.and_assoc, natE0]⟩
    by_cases hk : k = 6
    · subst hk
      by_cases h0 : i = 0
      · subst h0
        go_wp2_with fail
        go_meet
        case rel => exact ⟨rfl, true, false, false, 0, rfl, rfl, rfl, rfl, by simp [fitsM, fits3, fits2, Bool.and_assoc, natE0]⟩
      · by_cases h1 : i = 1
        · subst h1
          go_wp2_with fail
          go_meet
          case rel => exact ⟨rfl, true, false, false, 0, rfl, rfl, rfl, rfl, by simp [fitsM, fits3, fits2, Bool.and_assoc, natE0]⟩
        · have hi0 : (i != 0) = true := by simp; omega
          have hi1 : (i != 1) = true := by simp; omega
          go_wp2_with fail
          go_ret
          exact ⟨by rw [← HFM.out]; simp [fitsM, h0, h1], HB.out⟩
    by_cases hk : k = 11
    · subst hk
      by_cases h0 : i < 1
      · go_wp2_with fail
        go_ret
        exact ⟨by rw [← HFM.out]; simp [fitsM]; omega, HB.out⟩
      · have h1 : 1 ≤ i := by omega
        go_wp2_with fail
        go_meet
        case rel => exact ⟨rfl, true, false, false, 1, rfl, rfl, rfl, rfl, by simp [fitsM, fits3, fits2, h1, Bool.and_assoc, natE1]⟩
    have h0 : (k == 0) = false := by simp; omega
    have h1 : (k == 1) = false := by simp; omega
    have h2 : (k == 2) = false := by simp; omega
    have h3 : (k == 3) = false := by simp; omega
    have h4 : (k == 4) = false := by simp; omega
    have h5 : (k == 5) = false := by simp; omega
    have h6 : (k == 6) = false := by simp; omega
    have h7 : (k == 7) = false := by simp; omega
    have h8 : (k == 8) = false := by simp; omega
    have h9 : (k == 9) = false := by simp; omega
    have h10 : (k == 10) = false := by simp; omega
    have h11 : (k == 11) = false := by simp; omega
    have h12 : (k == 12) = false := by simp; omega
    have h13 : (k == 13) = false := by simp; omega
    have hfit : fitsM k i b t.data.toList n = false := by
      have : ¬ (0 ≤ k ∧ k ≤ 13) := by omega
      unfold fitsM
      simp only [Bool.and_eq_false_iff]
      refine .inl (.inl (.inl (.inl (.inl (.inl (.inl ?_))))))
      simp; omega
    have HFIT := Lib.hid hfit
    clear hfit
    go_wp2_with fail
    go_ret
    exact ⟨by rw [← HFM.out, HFIT.out]; rfl, HB.out⟩
  · obtain ⟨rfl, wh, bi, wo, pl, rfl, rfl, rfl, rfl, hfit⟩ := hcut
    have HFIT := Lib.hid hfit
    have hts : (t.data.toList == []) = (t.toList == []) := by rw [Lib.toList_data]
    have HTS := Lib.hid hts
    clear hts hfit
    go_upto_region 32 with (fail)
    go_cut [85] from 44 to 84 (fun s85 wx => wx = wc ∧ ∃ nf, s85 = .bool nf ∧ fm = !nf)
    · cases wh
      · cases hi : (i == 0)
        · have hin : (i != 0) = true := by simp [bne, hi]
          go_wp2_with fail
          go_meet
          case rel => exact ⟨rfl, _, rfl, by rw [← HFM.out, HFIT.out]; simp [fits3, fits2, HTS.out, hi]⟩
        · have hin : (i != 0) = false := by simp [bne, hi]
          cases bi
          · cases hb : (b == 0)
            · have hbn : (b != 0) = true := by simp [bne, hb]
              go_wp2_with fail
              go_meet
              case rel => exact ⟨rfl, _, rfl, by rw [← HFM.out, HFIT.out]; simp [fits3, fits2, HTS.out, hi, hb]⟩
            · have hbn : (b != 0) = false := by simp [bne, hb]
              cases wo
              · cases ht : (t.toList == [])
                · have htn : (t.toList != []) = true := by simp [bne, ht]
                  go_wp2_with fail
                  go_meet
                  case rel => exact ⟨rfl, _, rfl, by rw [← HFM.out, HFIT.out]; simp [fits3, fits2, HTS.out, hi, hb, ht]⟩
                · have htn : (t.toList != []) = false := by simp [bne, ht]
                  by_cases hp0 : pl < 0
                  · have hp1 : ¬ (0 : Int) ≤ pl := by omega
                    by_cases hl : t.size ≤ 65535
                    · have hli : ¬ (65535 : Int) < (t.size : Int) := by omega
                      go_wp2_with fail
                      go_meet
                      case rel => exact ⟨rfl, _, rfl, by rw [← HFM.out, HFIT.out]; simp [fits3, fits2, HTS.out, hi, hb, ht, hp0, hl]⟩
                    · have hli : (65535 : Int) < (t.size : Int) := by omega
                      go_wp2_with fail
                      go_meet
                      case rel => exact ⟨rfl, _, rfl, by rw [← HFM.out, HFIT.out]; simp [fits3, fits2, HTS.out, hi, hb, ht, hp0, hl]⟩
                  · have hp1 : (0 : Int) ≤ pl := by omega
                    cases hn : ((n : Int) == pl)
                    · have hnn : ((n : Int) != pl) = true := by simp [bne, hn]
                      have hnp : ¬ (n : Int) = pl := by simpa using hn
                      go_wp2_with fail
                      go_meet
                      case rel => exact ⟨rfl, _, rfl, by rw [← HFM.out, HFIT.out]; simp [fits3, fits2, HTS.out, hi, hb, ht, hp0, hnp]⟩
                    · have hnn : ((n : Int) != pl) = false := by simp [bne, hn]
                      have hnp : (n : Int) = pl := by simpa using hn
                      by_cases hl : t.size ≤ 65535
                      · have hli : ¬ (65535 : Int) < (t.size : Int) := by omega
                        go_wp2_with fail
                        go_meet
                        case rel => exact ⟨rfl, _, rfl, by rw [← HFM.out, HFIT.out]; simp [fits3, fits2, HTS.out, hi, hb, ht, hnp, hl]⟩
                      · have hli : (65535 : Int) < (t.size : Int) := by omega
                        go_wp2_with fail
                        go_meet
                        case rel => exact ⟨rfl, _, rfl, by rw [← HFM.out, HFIT.out]; simp [fits3, fits2, HTS.out, hi, hb, ht, hnp, hl]⟩
              · by_cases hp0 : pl < 0
                · have hp1 : ¬ (0 : Int) ≤ pl := by omega
                  by_cases hl : t.size ≤ 65535
                  · have hli : ¬ (65535 : Int) < (t.size : Int) := by omega
                    go_wp2_with fail
                    go_meet
                    case rel => exact ⟨rfl, _, rfl, by rw [← HFM.out, HFIT.out]; simp [fits3, fits2, HTS.out, hi, hb, hp0, hl]⟩
                  · have hli : (65535 : Int) < (t.size : Int) := by omega
                    go_wp2_with fail
                    go_meet
                    case rel => exact ⟨rfl, _, rfl, by rw [← HFM.out, HFIT.out]; simp [fits3, fits2, HTS.out, hi, hb, hp0, hl]⟩
                · have hp1 : (0 : Int) ≤ pl := by omega
                  cases hn : ((n : Int) == pl)
                  · have hnn : ((n : Int) != pl) = true := by simp [bne, hn]
                    have hnp : ¬ (n : Int) = pl := by simpa using hn
                    go_wp2_with fail
                    go_meet
                    case rel => exact ⟨rfl, _, rfl, by rw [← HFM.out, HFIT.out]; simp [fits3, fits2, HTS.out, hi, hb, hp0, hnp]⟩
                  · have hnn : ((n : Int) != pl) = false := by simp [bne, hn]
                    have hnp : (n : Int) = pl := by simpa using hn
                    by_cases hl : t.size ≤ 65535
                    · have hli : ¬ (65535 : Int) < (t.size : Int) := by omega
                      go_wp2_with fail
                      go_meet
                      case rel => exact ⟨rfl, _, rfl, by rw [← HFM.out, HFIT.out]; simp [fits3, fits2, HTS.out, hi, hb, hnp, hl]⟩
                    · have hli : (65535 : Int) < (t.size : Int) := by omega
                      go_wp2_with fail
                      go_meet
                      case rel => exact ⟨rfl, _, rfl, by rw [← HFM.out, HFIT.out]; simp [fits3, fits2, HTS.out, hi, hb, hnp, hl]⟩
          · cases wo
            · cases ht : (t.toList == [])
              · have htn : (t.toList != []) = true := by simp [bne, ht]
                go_wp2_with fail
                go_meet
                case rel => exact ⟨rfl, _, rfl, by rw [← HFM.out, HFIT.out]; simp [fits3, fits2, HTS.out, hi, ht]⟩
              · have htn : (t.toList != []) = false := by simp [bne, ht]
                by_cases hp0 : pl < 0
                · have hp1 : ¬ (0 : Int) ≤ pl := by omega
                  by_cases hl : t.size ≤ 65535
                  · have hli : ¬ (65535 : Int) < (t.size : Int) := by omega
                    go_wp2_with fail
                    go_meet
                    case rel => exact ⟨rfl, _, rfl, by rw [← HFM.out, HFIT.out]; simp [fits3, fits2, HTS.out, hi, ht, hp0, hl]⟩
                  · have hli : (65535 : Int) < (t.size : Int) := by omega
                    go_wp2_with fail
                    go_meet
                    case rel => exact ⟨rfl, _, rfl, by rw [← HFM.out, HFIT.out]; simp [fits3, fits2, HTS.out, hi, ht, hp0, hl]⟩
                · have hp1 : (0 : Int) ≤ pl := by omega
                  cases hn : ((n : Int) == pl)
                  · have hnn : ((n : Int) != pl) = true := by simp [bne, hn]
                    have hnp : ¬ (n : Int) = pl := by simpa using hn
                    go_wp2_with fail
                    go_meet
                    case rel => exact ⟨rfl, _, rfl, by rw [← HFM.out, HFIT.out]; simp [fits3, fits2, HTS.out, hi, ht, hp0, hnp]⟩
                  · have hnn : ((n : Int) != pl) = false := by simp [bne, hn]
                    have hnp : (n : Int) = pl := by simpa using hn
                    by_cases hl : t.size ≤ 65535
                    · have hli : ¬ (65535 : Int) < (t.size : Int) := by omega
                      go_wp2_with fail
                      go_meet
                      case rel => exact ⟨rfl, _, rfl, by rw [← HFM.out, HFIT.out]; simp [fits3, fits2, HTS.out, hi, ht, hnp, hl]⟩
                    · have hli : (65535 : Int) < (t.size : Int) := by omega
                      go_wp2_with fail
                      go_meet
                      case rel => exact ⟨rfl, _, rfl, by rw [← HFM.out, HFIT.out]; simp [fits3, fits2, HTS.out, hi, ht, hnp, hl]⟩
            · by_cases hp0 : pl < 0
              · have hp1 : ¬ (0 : Int) ≤ pl := by omega
                by_cases hl : t.size ≤ 65535
                · have hli : ¬ (65535 : Int) < (t.size : Int) := by omega
                  go_wp2_with fail
                  go_meet
                  case rel => exact ⟨rfl, _, rfl, by rw [← HFM.out, HFIT.out]; simp [fits3, fits2, HTS.out, hi, hp0, hl]⟩
                · have hli : (65535 : Int) < (t.size : Int) := by omega
                  go_wp2_with fail
                  go_meet
                  case rel => exact ⟨rfl, _, rfl, by rw [← HFM.out, HFIT.out]; simp [fits3, fits2, HTS.out, hi, hp0, hl]⟩
              · have hp1 : (0 : Int) ≤ pl := by omega
                cases hn : ((n : Int) == pl)
                · have hnn : ((n : Int) != pl) = true := by simp [bne, hn]
                  have hnp : ¬ (n : Int) = pl := by simpa using hn
                  go_wp2_with fail
                  go_meet
                  case rel => exact ⟨rfl, _, rfl, by rw [← HFM.out, HFIT.out]; simp [fits3, fits2, HTS.out, hi, hp0, hnp]⟩
                · have hnn : ((n : Int) != pl) = false := by simp [bne, hn]
                  have hnp : (n : Int) = pl := by simpa using hn
                  by_cases hl : t.size ≤ 65535
                  · have hli : ¬ (65535 : Int) < (t.size : Int) := by omega
                    go_wp2_with fail
                    go_meet
                    case rel => exact ⟨rfl, _, rfl, by rw [← HFM.out, HFIT.out]; simp [fits3, fits2, HTS.out, hi, hnp, hl]⟩
                  · have hli : (65535 : Int) < (t.size : Int) := by omega
                    go_wp2_with fail
                    go_meet
                    case rel => exact ⟨rfl, _, rfl, by rw [← HFM.out, HFIT.out]; simp [fits3, fits2, HTS.out, hi, hnp, hl]⟩
      · cases bi
        · cases hb : (b == 0)
          · have hbn : (b != 0) = true := by simp [bne, hb]
            go_wp2_with fail
            go_meet
            case rel => exact ⟨rfl, _, rfl, by rw [← HFM.out, HFIT.out]; simp [fits3, fits2, HTS.out, hb]⟩
          · have hbn : (b != 0) = false := by simp [bne, hb]
            cases wo
            · cases ht : (t.toList == [])
              · have htn : (t.toList != []) = true := by simp [bne, ht]
                go_wp2_with fail
                go_meet
                case rel => exact ⟨rfl, _, rfl, by rw [← HFM.out, HFIT.out]; simp [fits3, fits2, HTS.out, hb, ht]⟩
              · have htn : (t.toList != []) = false := by simp [bne, ht]
                by_cases hp0 : pl < 0
                · have hp1 : ¬ (0 : Int) ≤ pl := by omega
                  by_cases hl : t.size ≤ 65535
                  · have hli : ¬ (65535 : Int) < (t.size : Int) := by omega
                    go_wp2_with fail
                    go_meet
                    case rel => exact ⟨rfl, _, rfl, by rw [← HFM.out, HFIT.out]; simp [fits3, fits2, HTS.out, hb, ht, hp0, hl]⟩
                  · have hli : (65535 : Int) < (t.size : Int) := by omega
                    go_wp2_with fail
                    go_meet
                    case rel => exact ⟨rfl, _, rfl, by rw [← HFM.out, HFIT.out]; simp [fits3, fits2, HTS.out, hb, ht, hp0, hl]⟩
                · have hp1 : (0 : Int) ≤ pl := by omega
                  cases hn : ((n : Int) == pl)
                  · have hnn : ((n : Int) != pl) = true := by simp [bne, hn]
                    have hnp : ¬ (n : Int) = pl := by simpa using hn
                    go_wp2_with fail
                    go_meet
                    case rel => exact ⟨rfl, _, rfl, by rw [← HFM.out, HFIT.out]; simp [fits3, fits2, HTS.out, hb, ht, hp0, hnp]⟩
                  · have hnn : ((n : Int) != pl) = false := by simp [bne, hn]
                    have hnp : (n : Int) = pl := by simpa using hn
                    by_cases hl : t.size ≤ 65535
                    · have hli : ¬ (65535 : Int) < (t.size : Int) := by omega
                      go_wp2_with fail
                      go_meet
                      case rel => exact ⟨rfl, _, rfl, by rw [← HFM.out, HFIT.out]; simp [fits3, fits2, HTS.out, hb, ht, hnp, hl]⟩
                    · have hli : (65535 : Int) < (t.size : Int) := by omega
                      go_wp2_with fail
                      go_meet
                      case rel => exact ⟨rfl, _, rfl, by rw [← HFM.out, HFIT.out]; simp [fits3, fits2, HTS.out, hb, ht, hnp, hl]⟩
            · by_cases hp0 : pl < 0
              · have hp1 : ¬ (0 : Int) ≤ pl := by omega
                by_cases hl : t.size ≤ 65535
                · have hli : ¬ (65535 : Int) < (t.size : Int) := by omega
                  go_wp2_with fail
                  go_meet
                  case rel => exact ⟨rfl, _, rfl, by rw [← HFM.out, HFIT.out]; simp [fits3, fits2, HTS.out, hb, hp0, hl]⟩
                · have hli : (65535 : Int) < (t.size : Int) := by omega
                  go_wp2_with fail
                  go_meet
                  case rel => exact ⟨rfl, _, rfl, by rw [← HFM.out, HFIT.out]; simp [fits3, fits2, HTS.out, hb, hp0, hl]⟩
              · have hp1 : (0 : Int) ≤ pl := by omega
                cases hn : ((n : Int) == pl)
                · have hnn : ((n : Int) != pl) = true := by simp [bne, hn]
                  have hnp : ¬ (n : Int) = pl := by simpa using hn
                  go_wp2_with fail
                  go_meet
                  case rel => exact ⟨rfl, _, rfl, by rw [← HFM.out, HFIT.out]; simp [fits3, fits2, HTS.out, hb, hp0, hnp]⟩
                · have hnn : ((n : Int) != pl) = false := by simp [bne, hn]
                  have hnp : (n : Int) = pl := by simpa using hn
                  by_cases hl : t.size ≤ 65535
                  · have hli : ¬ (65535 : Int) < (t.size : Int) := by omega
                    go_wp2_with fail
                    go_meet
                    case rel => exact ⟨rfl, _, rfl, by rw [← HFM.out, HFIT.out]; simp [fits3, fits2, HTS.out, hb, hnp, hl]⟩
                  · have hli : (65535 : Int) < (t.size : Int) := by omega
                    go_wp2_with fail
                    go_meet
                    case rel => exact ⟨rfl, _, rfl, by rw [← HFM.out, HFIT.out]; simp [fits3, fits2, HTS.out, hb, hnp, hl]⟩
        · cases wo
          · cases ht : (t.toList == [])
            · have htn : (t.toList != []) = true := by simp [bne, ht]
              go_wp2_with fail
              go_meet
              case rel => exact ⟨rfl, _, rfl, by rw [← HFM.out, HFIT.out]; simp [fits3, fits2, HTS.out, ht]⟩
            · have htn : (t.toList != []) = false := by simp [bne, ht]
              by_cases hp0 : pl < 0
              · have hp1 : ¬ (0 : Int) ≤ pl := by omega
                by_cases hl : t.size ≤ 65535
                · have hli : ¬ (65535 : Int) < (t.size : Int) := by omega
                  go_wp2_with fail
                  go_meet
                  case rel => exact ⟨rfl, _, rfl, by rw [← HFM.out, HFIT.out]; simp [fits3, fits2, HTS.out, ht, hp0, hl]⟩
                · have hli : (65535 : Int) < (t.size : Int) := by omega
                  go_wp2_with fail
                  go_meet
                  case rel => exact ⟨rfl, _, rfl, by rw [← HFM.out, HFIT.out]; simp [fits3, fits2, HTS.out, ht, hp0, hl]⟩
              · have hp1 : (0 : Int) ≤ pl := by omega
                cases hn : ((n : Int) == pl)
                · have hnn : ((n : Int) != pl) = true := by simp [bne, hn]
                  have hnp : ¬ (n : Int) = pl := by simpa using hn
                  go_wp2_with fail
                  go_meet
                  case rel => exact ⟨rfl, _, rfl, by rw [← HFM.out, HFIT.out]; simp [fits3, fits2, HTS.out, ht, hp0, hnp]⟩
                · have hnn : ((n : Int) != pl) = false := by simp [bne, hn]
                  have hnp : (n : Int) = pl := by simpa using hn
                  by_cases hl : t.size ≤ 65535
                  · have hli : ¬ (65535 : Int) < (t.size : Int) := by omega
                    go_wp2_with fail
                    go_meet
                    case rel => exact ⟨rfl, _, rfl, by rw [← HFM.out, HFIT.out]; simp [fits3, fits2, HTS.out, ht, hnp, hl]⟩
                  · have hli : (65535 : Int) < (t.size : Int) := by omega
                    go_wp2_with fail
                    go_meet
                    case rel => exact ⟨rfl, _, rfl, by rw [← HFM.out, HFIT.out]; simp [fits3, fits2, HTS.out, ht, hnp, hl]⟩
          · by_cases hp0 : pl < 0
            · have hp1 : ¬ (0 : Int) ≤ pl := by omega
              by_cases hl : t.size ≤ 65535
              · have hli : ¬ (65535 : Int) < (t.size : Int) := by omega
                go_wp2_with fail
                go_meet
                case rel => exact ⟨rfl, _, rfl, by rw [← HFM.out, HFIT.out]; simp [fits3, fits2, HTS.out, hp0, hl]⟩
              · have hli : (65535 : Int) < (t.size : Int) := by omega
                go_wp2_with fail
                go_meet
                case rel => exact ⟨rfl, _, rfl, by rw [← HFM.out, HFIT.out]; simp [fits3, fits2, HTS.out, hp0, hl]⟩
            · have hp1 : (0 : Int) ≤ pl := by omega
              cases hn : ((n : Int) == pl)
              · have hnn : ((n : Int) != pl) = true := by simp [bne, hn]
                have hnp : ¬ (n : Int) = pl := by simpa using hn
                go_wp2_with fail
                go_meet
                case rel => exact ⟨rfl, _, rfl, by rw [← HFM.out, HFIT.out]; simp [fits3, fits2, HTS.out, hp0, hnp]⟩
              · have hnn : ((n : Int) != pl) = false := by simp [bne, hn]
                have hnp : (n : Int) = pl := by simpa using hn
                by_cases hl : t.size ≤ 65535
                · have hli : ¬ (65535 : Int) < (t.size : Int) := by omega
                  go_wp2_with fail
                  go_meet
                  case rel => exact ⟨rfl, _, rfl, by rw [← HFM.out, HFIT.out]; simp [fits3, fits2, HTS.out, hnp, hl]⟩
                · have hli : (65535 : Int) < (t.size : Int) := by omega
                  go_wp2_with fail
                  go_meet
                  case rel => exact ⟨rfl, _, rfl, by rw [← HFM.out, HFIT.out]; simp [fits3, fits2, HTS.out, hnp, hl]⟩
    · obtain ⟨rfl, nf, rfl, hnf⟩ := hcut
      clear c0 c1 c2 c3
      cases nf
      rotate_left
      · replace hnf : fm = false := hnf
        subst hnf
        go_wp2_with fail
        go_ret
        exact ⟨rfl, HB.out⟩
      · replace hnf : fm = true := hnf
        subst hnf
        go_wp2_with fail
        go_loopw [89] (fun t89 wr => RTRel kids w t89 wr ∧ wr.cell? ⟨w.heap.size, 4, none⟩ = some (.slice l n c) ∧ Below wc.heap.size wc wr) (fun t89 _ => n - (intOf t89).toNat)
        case atStart => exact ⟨⟨.nil, kids, rfl, rfl, HB.out, rfl⟩, c4, Below.refl _ _⟩
        case round =>
          obtain ⟨⟨dn, rest, rfl, hk, hB, hq⟩, c4r, hB1⟩ := hrel
          have hlen := HLEN.out
          rw [hk, Fo.len_app] at hlen
          have HBw := Lib.hid hB
          have HB1 := Lib.hid hB1
          have hFr : FoAt S wr kids l n c := HF.out.same (fun x hx hlt => hB.block x (HS.out x hx)) (fun x hx _ => hx)
          clear hB hB1 c4
          cases rest with
          | nil =>
            have hj : ¬ (dn.len : Int) < (n : Int) := by have : Fo.len .nil = 0 := rfl; omega
            have HR := Lib.hid hq
            clear hq hk hlen hFr
            go_wp2_with fail
            go_ret
            exact ⟨by rw [HR.out]; rfl, HBw.out⟩
          | cons k2 i2 b2 t2 ks rest2 =>
            have hlr : (Fo.cons k2 i2 b2 t2 ks rest2).len = rest2.len + 1 := rfl
            have hjn : dn.len < n := by omega
            have hj : (dn.len : Int) < (n : Int) := by omega
            obtain ⟨cs, ⟨hRd, hSx⟩, hAt⟩ := hFr
            have hHead := hRd.at (k := dn.len) hjn
            have hnb : n ≤ 9223372036854775807 := by have h1 := hRd.le; have h2 := hRd.max; unfold maxLen at h2; omega
            rw [hk] at hAt
            obtain ⟨cs1, cs2, rfl, hA1, hA2⟩ := At.split dn hAt
            have hl1 := At.len dn hA1
            obtain ⟨a2, n2, cap2, ks2, cs', rfl, hKid, hKidAt, _⟩ := hA2
            obtain ⟨bb2, off, rfl, hlt, hc⟩ := hHead
            have hcell : ∀ i, i < 5 → wr.cell? ⟨bb2, off + dn.len * 5 + i, none⟩ = [Value.int .i64 k2, .int .i64 i2, .int .u64 b2, .string ⟨t2.toArray⟩, .slice a2 n2 cap2][i]? := fun i hi => by
              rw [hc i hi, List.getElem?_append_right (by omega), hl1, Nat.add_sub_cancel_left]
              match i, hi with
              | 0, _ => rfl
              | 1, _ => rfl
              | 2, _ => rfl
              | 3, _ => rfl
              | 4, _ => rfl
            have hkF : FoAt S wr ks a2 n2 cap2 := ⟨ks2, hKid, hKidAt⟩
            have e0 := hcell 0 (by omega)
            have e1 := hcell 1 (by omega)
            have e2 := hcell 2 (by omega)
            have e3 := hcell 3 (by omega)
            have e4 := hcell 4 (by omega)
            simp only [List.getElem?_cons_zero, List.getElem?_cons_succ, Nat.add_zero] at e0 e1 e2 e3 e4
            have hROK : RTOK ks := by
              have hal := HALL.out
              rw [hk] at hal
              exact (Fo.All.split dn hal).1
            have hkl := hkF.len
            have HC := Lib.hid (hROK k2 i2 b2 t2 a2 n2 cap2 S wr hkF (fun x hx => Nat.lt_of_lt_of_le (HS.out x hx) HBw.out.size))
            have hrq : rightM (.cons k2 i2 b2 t2 ks rest2) = ((fitsM k2 i2 b2 t2 n2 && rightM ks) && rightM rest2) := by rw [rightM, hkl]
            rw [hrq] at hq
            generalize (fitsM k2 i2 b2 t2 n2 && rightM ks) = fk at *
            have HKK := Lib.hid hk
            have HJ := Lib.hid hjn
            have HQ := Lib.hid hq
            clear hkF hROK hk hcell hc hRd hSx hAt hA1 hKid hKidAt hl1 hlen hlr hlt hjn hq hrq hkl
            generalize hjj : dn.len = j at *
            have HJJ := Lib.hid hjj
            clear hjj
            cases fk
            · go_wp2_with (go_at_call 100; (with_reducible refine HC.out.mono ?_); rintro e5 w5 ⟨rfl, hB5⟩)
              go_ret
              exact ⟨by rw [HQ.out]; rfl, HBw.out.trans (hB5.mono HBw.out.size)⟩
            · go_wp2_with (go_at_call 100; (with_reducible refine HC.out.mono ?_); rintro e5 w5 ⟨rfl, hB5⟩; have HB5 := Lib.hid hB5; clear hB5)
              go_roundw
              case rel =>
                refine ⟨⟨dn.app (.cons k2 i2 b2 t2 ks .nil), rest2, ?_, ?_, HBw.out.trans (HB5.out.mono HBw.out.size), by rw [HQ.out]; simp⟩, cellAt HB5.out c4r, HB1.out.trans (HB5.out.mono HB1.out.size)⟩
                · rw [Fo.len_app, HJJ.out, show (Fo.cons k2 i2 b2 t2 ks .nil).len = 1 from rfl]; go_num
                · rw [Fo.app_assoc]; exact HKK.out
              case measure => simp [intOf]; have := HJ.out; omega
theorem rightAll : ∀ f : Fo, f.All RTOK
  | .nil => trivial
  | .cons _ _ _ _ kids rest => ⟨rightN (rightAll kids), rightAll rest⟩
theorem rightG (kids : Fo) : RTOK kids := rightN (rightAll kids)
end Go.Proofs.YtbldidiibkcelaaGreatDoor
