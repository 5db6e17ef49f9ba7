/-
  The document's right: an error and all in it has what its kind has (walk). Not a statement of the seat.
-/
import Derived.Test.YtbldidiibkcelaaGreatDoorTECount
namespace Go.Proofs.YtbldidiibkcelaaGreatDoor
open Go.RowKit

def ERGOK (kids : Eo) : Prop := ∀ (k i c : Int) (t : Bs) (b : Dt) (cs : List Int) (bl : Option Addr) (bn bc : Nat) (cl : Option Addr) (cn cc : Nat) (l : Option Addr) (n cap : Nat) (S : Nat → Prop) (w : World),
  ErAt S w ⟨k, i, c, t, b, cs, kids⟩ bl bn bc cl cn cc l n cap → (∀ x, S x → x < w.heap.size) →
  Calls Tryz.prog 39 #[vE k i c t b bl bn bc cl cn cc l n cap] w (fun e w' => e = .returned (.bool (rright1 k i c t b cs kids)) ∧ Below w.heap.size w w')
def ERRel (many : Bool) (kids : Eo) (w : World) (res : Bool) (t125 : Value) (wr : World) : Prop :=
  ∃ (dn rest : Eo), t125 = .int .i64 (dn.len : Nat) ∧ kids = dn.app rest ∧ Below w.heap.size w wr ∧ rrightL many rest = res
set_option maxHeartbeats 8000000 in
set_option maxRecDepth 100000 in
theorem erightN {kids : Eo} (hall : kids.All ERGOK) : ERGOK kids := by
  intro k i c t b cs bl bn bc cl cn cc l n cap S w hE hS
  have hlen := hE.2.2.len
  have hcn : cs.length = cn := by have h : (I8 cs).length = cn * 1 := hE.2.1.1.1; rw [I8_length] at h; omega
  have hbn := hE.1.len
  have hA := ebox_blk w k i c t b bl bn bc cl cn cc l n cap
  have hBA := ebox_below w k i c t b bl bn bc cl cn cc l n cap
  have HRT := Lib.hid (show rright1 k i c t b cs kids = ((fldOk k && fitA (fldM k) i c t cn) && (fitB (fldM k) k c n && fitC (fldM k) b) && rrightL (k == 4) kids) by unfold rright1 fitsE; rw [hcn, hlen])
  generalize rright1 k i c t b cs kids = res at *
  unfold vE
  go_enter Tryz.func39, Tryz.ntmps39
  go_upto_region 1 with (fail)
  change Code.wp _ _ _ _ (ebox w k i c t b bl bn bc cl cn cc l n cap)
  generalize ebox w k i c t b bl bn bc cl cn cc l n cap = w1 at *
  have c0 := hA.cell 0 rfl; have c1 := hA.cell 1 rfl; have c2 := hA.cell 2 rfl; have c3 := hA.cell 3 rfl; have c9 := hA.cell 9 rfl; have c10 := hA.cell 10 rfl
  have HE := Lib.hid hE
  have HS := Lib.hid hS
  have HX := Lib.hid hA
  have HB := Lib.hid hBA
  have HLEN := Lib.hid (And.intro hlen (And.intro hcn hbn))
  clear hA hBA hE hS hlen hcn hbn
  go_upto_block 0 with fail
  go_cut [3, 4, 5, 6, 7, 8, 9] from 13 (fun s3 s4 s5 s6 s7 s8 s9 wx => wx = w1 ∧ s3 = .bool (fldM k).id ∧ s4 = .bool (fldM k).code ∧ s5 = .bool (fldM k).text ∧ s6 = .bool (fldM k).body ∧ s7 = .bool (fldM k).codes ∧ s8 = .int .i64 (fldM k).least ∧ s9 = .int .i64 (fldM k).most ∧ fldOk k = true ∧ (!(k == 10) || (decide (1 ≤ c) && decide (c ≤ 3))) = true)
  case first => as_aux_lemma =>
    by_cases h0 : k = 0
    · subst h0
      go_wp2_with fail
      go_meet
      case rel => exact ⟨rfl, rfl, rfl, rfl, rfl, rfl, rfl, rfl, rfl, rfl⟩
    by_cases h7 : k = 7
    · subst h7
      go_wp2_with fail
      go_meet
      case rel => exact ⟨rfl, rfl, rfl, rfl, rfl, rfl, rfl, rfl, rfl, rfl⟩
    by_cases h1 : k = 1
    · subst h1
      go_wp2_with fail
      go_meet
      case rel => exact ⟨rfl, rfl, rfl, rfl, rfl, rfl, rfl, rfl, rfl, rfl⟩
    by_cases h10 : k = 10
    · subst h10
      by_cases hc1 : c < 1
      · go_wp2_with fail
        go_ret
        exact ⟨by rw [HRT.out]; simp [fitB, show ¬ 1 ≤ c by omega], HB.out⟩
      · by_cases hc3 : 3 < c
        · go_wp2_with fail
          go_ret
          exact ⟨by rw [HRT.out]; simp [fitB, show ¬ c ≤ 3 by omega], HB.out⟩
        · go_wp2_with fail
          go_meet
          case rel => exact ⟨rfl, rfl, rfl, rfl, rfl, rfl, rfl, rfl, rfl, by simp; omega⟩
    by_cases h2 : k = 2
    · subst h2
      go_wp2_with fail
      go_meet
      case rel => exact ⟨rfl, rfl, rfl, rfl, rfl, rfl, rfl, rfl, rfl, rfl⟩
    by_cases h3 : k = 3
    · subst h3
      go_wp2_with fail
      go_meet
      case rel => exact ⟨rfl, rfl, rfl, rfl, rfl, rfl, rfl, rfl, rfl, rfl⟩
    by_cases h4 : k = 4
    · subst h4
      go_wp2_with fail
      go_meet
      case rel => exact ⟨rfl, rfl, rfl, rfl, rfl, rfl, rfl, rfl, rfl, rfl⟩
    by_cases h5 : k = 5
    · subst h5
      go_wp2_with fail
      go_meet
      case rel => exact ⟨rfl, rfl, rfl, rfl, rfl, rfl, rfl, rfl, rfl, rfl⟩
    by_cases h6 : k = 6
    · subst h6
      go_wp2_with fail
      go_meet
      case rel => exact ⟨rfl, rfl, rfl, rfl, rfl, rfl, rfl, rfl, rfl, rfl⟩
    by_cases h8 : k = 8
    · subst h8
      go_wp2_with fail
      go_meet
      case rel => exact ⟨rfl, rfl, rfl, rfl, rfl, rfl, rfl, rfl, rfl, rfl⟩
    by_cases h9 : k = 9
    · subst h9
      go_wp2_with fail
      go_meet
      case rel => exact ⟨rfl, rfl, rfl, rfl, rfl, rfl, rfl, rfl, rfl, rfl⟩
    have HK := Lib.hid (show fldOk k = false by unfold fldOk; simp only [decide_eq_false_iff_not]; omega)
    have e0 : (k == 0) = false := by simpa using h0
    have e7 : (k == 7) = false := by simpa using h7
    have e1 : (k == 1) = false := by simpa using h1
    have e10 : (k == 10) = false := by simpa using h10
    have e2 : (k == 2) = false := by simpa using h2
    have e3 : (k == 3) = false := by simpa using h3
    have e4 : (k == 4) = false := by simpa using h4
    have e5 : (k == 5) = false := by simpa using h5
    have e6 : (k == 6) = false := by simpa using h6
    have e8 : (k == 8) = false := by simpa using h8
    have e9 : (k == 9) = false := by simpa using h9
    clear h0 h7 h1 h10 h2 h3 h4 h5 h6 h8 h9
    go_wp2_with fail
    go_ret
    exact ⟨by rw [HRT.out, HK.out]; rfl, HB.out⟩
  case rest =>
    obtain ⟨rfl, rfl, rfl, rfl, rfl, rfl, rfl, rfl, hok, h10⟩ := hcut
    have HFB := Lib.hid (show res = (fitA (fldM k) i c t cn && (decide ((fldM k).least ≤ (n : Int)) && decide ((n : Int) ≤ (fldM k).most)) && fitC (fldM k) b && rrightL (k == 4) kids) by rw [HRT.out, hok]; unfold fitB; rw [h10]; simp [Bool.and_assoc])
    clear HRT hok h10
    generalize fldM k = f at *
    obtain ⟨fid, fcode, ftext, fbody, fcodes, least, most⟩ := f
    have HFC := Lib.hid (show res = (fitA ⟨fid, fcode, ftext, fbody, fcodes, least, most⟩ i c t cn && (decide (least ≤ (n : Int)) && decide ((n : Int) ≤ most)) && fitC ⟨fid, fcode, ftext, fbody, fcodes, least, most⟩ b && rrightL (k == 4) kids) from HFB.out)
    clear HFB
    dsimp only
    go_upto_region 26 with fail
    go_cut [103] from 42 to 103 (fun s103 wx => wx = wc ∧ s103 = .bool (!(fitA ⟨fid, fcode, ftext, fbody, fcodes, least, most⟩ i c t cn && (decide (least ≤ (n : Int)) && decide ((n : Int) ≤ most)))))
    case first => as_aux_lemma =>
      cases fid
      · by_cases hi1 : (1 : Int) ≤ i
        · go_wp2_with fail
          go_meet
          case rel => exact ⟨rfl, by simp [fitA, hi1]⟩
        · by_cases hi0 : i = 0
          · have ei0 : (i != 0) = false := by simp [hi0]
            have HI0 := Lib.hid hi0
            clear hi0
            cases fcode
            · by_cases hc0 : c = 0
              · have ec0 : (c != 0) = false := by simp [hc0]
                have HC0 := Lib.hid hc0
                clear hc0
                cases ftext
                · cases ht0 : (t == [])
                  · go_wp2_with fail
                    go_meet
                    case rel => exact ⟨rfl, by simp [fitA, HI0.out, HC0.out, ht0]⟩
                  · by_cases htl : t.length ≤ 65535
                    · have eli : ¬ (65535 : Int) < (t.length : Int) := by omega
                      cases fcodes
                      · by_cases hcn : cn = 0
                        · obtain ⟨ci, hci⟩ : ∃ ci : Int, (cn : Int) = ci := ⟨_, rfl⟩
                          have ecn : ¬ (0 : Int) < ci := by omega
                          have HCN := Lib.hid hcn
                          clear hcn
                          by_cases hle : (n : Int) < least
                          · go_wp2_with fail
                            go_meet
                            case rel => exact ⟨rfl, by simp [fitA, HI0.out, HC0.out, ht0, htl, HCN.out, show ¬ least ≤ (n : Int) by omega]⟩
                          · by_cases hmo : most < (n : Int)
                            · go_wp2_with fail
                              go_meet
                              case rel => exact ⟨rfl, by simp [fitA, HI0.out, HC0.out, ht0, htl, HCN.out, show ¬ (n : Int) ≤ most by omega]⟩
                            · go_wp2_with fail
                              go_meet
                              case rel => exact ⟨rfl, by simp [fitA, HI0.out, HC0.out, ht0, htl, HCN.out, show least ≤ (n : Int) by omega, show (n : Int) ≤ most by omega]⟩
                        · have ecn : (0 : Int) < (cn : Int) := by omega
                          have HCN := Lib.hid hcn
                          clear hcn
                          go_wp2_with fail
                          go_meet
                          case rel => exact ⟨rfl, by simp [fitA, HI0.out, HC0.out, ht0, htl, HCN.out]⟩
                      · by_cases hle : (n : Int) < least
                        · go_wp2_with fail
                          go_meet
                          case rel => exact ⟨rfl, by simp [fitA, HI0.out, HC0.out, ht0, htl, show ¬ least ≤ (n : Int) by omega]⟩
                        · by_cases hmo : most < (n : Int)
                          · go_wp2_with fail
                            go_meet
                            case rel => exact ⟨rfl, by simp [fitA, HI0.out, HC0.out, ht0, htl, show ¬ (n : Int) ≤ most by omega]⟩
                          · go_wp2_with fail
                            go_meet
                            case rel => exact ⟨rfl, by simp [fitA, HI0.out, HC0.out, ht0, htl, show least ≤ (n : Int) by omega, show (n : Int) ≤ most by omega]⟩
                    · have eli : (65535 : Int) < (t.length : Int) := by omega
                      go_wp2_with fail
                      go_meet
                      case rel => exact ⟨rfl, by simp [fitA, HI0.out, HC0.out, ht0, htl]⟩
                · by_cases htl : t.length ≤ 65535
                  · have eli : ¬ (65535 : Int) < (t.length : Int) := by omega
                    cases fcodes
                    · by_cases hcn : cn = 0
                      · obtain ⟨ci, hci⟩ : ∃ ci : Int, (cn : Int) = ci := ⟨_, rfl⟩
                        have ecn : ¬ (0 : Int) < ci := by omega
                        have HCN := Lib.hid hcn
                        clear hcn
                        by_cases hle : (n : Int) < least
                        · go_wp2_with fail
                          go_meet
                          case rel => exact ⟨rfl, by simp [fitA, HI0.out, HC0.out, htl, HCN.out, show ¬ least ≤ (n : Int) by omega]⟩
                        · by_cases hmo : most < (n : Int)
                          · go_wp2_with fail
                            go_meet
                            case rel => exact ⟨rfl, by simp [fitA, HI0.out, HC0.out, htl, HCN.out, show ¬ (n : Int) ≤ most by omega]⟩
                          · go_wp2_with fail
                            go_meet
                            case rel => exact ⟨rfl, by simp [fitA, HI0.out, HC0.out, htl, HCN.out, show least ≤ (n : Int) by omega, show (n : Int) ≤ most by omega]⟩
                      · have ecn : (0 : Int) < (cn : Int) := by omega
                        have HCN := Lib.hid hcn
                        clear hcn
                        go_wp2_with fail
                        go_meet
                        case rel => exact ⟨rfl, by simp [fitA, HI0.out, HC0.out, htl, HCN.out]⟩
                    · by_cases hle : (n : Int) < least
                      · go_wp2_with fail
                        go_meet
                        case rel => exact ⟨rfl, by simp [fitA, HI0.out, HC0.out, htl, show ¬ least ≤ (n : Int) by omega]⟩
                      · by_cases hmo : most < (n : Int)
                        · go_wp2_with fail
                          go_meet
                          case rel => exact ⟨rfl, by simp [fitA, HI0.out, HC0.out, htl, show ¬ (n : Int) ≤ most by omega]⟩
                        · go_wp2_with fail
                          go_meet
                          case rel => exact ⟨rfl, by simp [fitA, HI0.out, HC0.out, htl, show least ≤ (n : Int) by omega, show (n : Int) ≤ most by omega]⟩
                  · have eli : (65535 : Int) < (t.length : Int) := by omega
                    go_wp2_with fail
                    go_meet
                    case rel => exact ⟨rfl, by simp [fitA, HI0.out, HC0.out, htl]⟩
              · have ec0 : (c != 0) = true := by simpa using hc0
                have HC0 := Lib.hid hc0
                clear hc0
                go_wp2_with fail
                go_meet
                case rel => exact ⟨rfl, by simp [fitA, HI0.out, HC0.out]⟩
            · cases ftext
              · cases ht0 : (t == [])
                · go_wp2_with fail
                  go_meet
                  case rel => exact ⟨rfl, by simp [fitA, HI0.out, ht0]⟩
                · by_cases htl : t.length ≤ 65535
                  · have eli : ¬ (65535 : Int) < (t.length : Int) := by omega
                    cases fcodes
                    · by_cases hcn : cn = 0
                      · obtain ⟨ci, hci⟩ : ∃ ci : Int, (cn : Int) = ci := ⟨_, rfl⟩
                        have ecn : ¬ (0 : Int) < ci := by omega
                        have HCN := Lib.hid hcn
                        clear hcn
                        by_cases hle : (n : Int) < least
                        · go_wp2_with fail
                          go_meet
                          case rel => exact ⟨rfl, by simp [fitA, HI0.out, ht0, htl, HCN.out, show ¬ least ≤ (n : Int) by omega]⟩
                        · by_cases hmo : most < (n : Int)
                          · go_wp2_with fail
                            go_meet
                            case rel => exact ⟨rfl, by simp [fitA, HI0.out, ht0, htl, HCN.out, show ¬ (n : Int) ≤ most by omega]⟩
                          · go_wp2_with fail
                            go_meet
                            case rel => exact ⟨rfl, by simp [fitA, HI0.out, ht0, htl, HCN.out, show least ≤ (n : Int) by omega, show (n : Int) ≤ most by omega]⟩
                      · have ecn : (0 : Int) < (cn : Int) := by omega
                        have HCN := Lib.hid hcn
                        clear hcn
                        go_wp2_with fail
                        go_meet
                        case rel => exact ⟨rfl, by simp [fitA, HI0.out, ht0, htl, HCN.out]⟩
                    · by_cases hle : (n : Int) < least
                      · go_wp2_with fail
                        go_meet
                        case rel => exact ⟨rfl, by simp [fitA, HI0.out, ht0, htl, show ¬ least ≤ (n : Int) by omega]⟩
                      · by_cases hmo : most < (n : Int)
                        · go_wp2_with fail
                          go_meet
                          case rel => exact ⟨rfl, by simp [fitA, HI0.out, ht0, htl, show ¬ (n : Int) ≤ most by omega]⟩
                        · go_wp2_with fail
                          go_meet
                          case rel => exact ⟨rfl, by simp [fitA, HI0.out, ht0, htl, show least ≤ (n : Int) by omega, show (n : Int) ≤ most by omega]⟩
                  · have eli : (65535 : Int) < (t.length : Int) := by omega
                    go_wp2_with fail
                    go_meet
                    case rel => exact ⟨rfl, by simp [fitA, HI0.out, ht0, htl]⟩
              · by_cases htl : t.length ≤ 65535
                · have eli : ¬ (65535 : Int) < (t.length : Int) := by omega
                  cases fcodes
                  · by_cases hcn : cn = 0
                    · obtain ⟨ci, hci⟩ : ∃ ci : Int, (cn : Int) = ci := ⟨_, rfl⟩
                      have ecn : ¬ (0 : Int) < ci := by omega
                      have HCN := Lib.hid hcn
                      clear hcn
                      by_cases hle : (n : Int) < least
                      · go_wp2_with fail
                        go_meet
                        case rel => exact ⟨rfl, by simp [fitA, HI0.out, htl, HCN.out, show ¬ least ≤ (n : Int) by omega]⟩
                      · by_cases hmo : most < (n : Int)
                        · go_wp2_with fail
                          go_meet
                          case rel => exact ⟨rfl, by simp [fitA, HI0.out, htl, HCN.out, show ¬ (n : Int) ≤ most by omega]⟩
                        · go_wp2_with fail
                          go_meet
                          case rel => exact ⟨rfl, by simp [fitA, HI0.out, htl, HCN.out, show least ≤ (n : Int) by omega, show (n : Int) ≤ most by omega]⟩
                    · have ecn : (0 : Int) < (cn : Int) := by omega
                      have HCN := Lib.hid hcn
                      clear hcn
                      go_wp2_with fail
                      go_meet
                      case rel => exact ⟨rfl, by simp [fitA, HI0.out, htl, HCN.out]⟩
                  · by_cases hle : (n : Int) < least
                    · go_wp2_with fail
                      go_meet
                      case rel => exact ⟨rfl, by simp [fitA, HI0.out, htl, show ¬ least ≤ (n : Int) by omega]⟩
                    · by_cases hmo : most < (n : Int)
                      · go_wp2_with fail
                        go_meet
                        case rel => exact ⟨rfl, by simp [fitA, HI0.out, htl, show ¬ (n : Int) ≤ most by omega]⟩
                      · go_wp2_with fail
                        go_meet
                        case rel => exact ⟨rfl, by simp [fitA, HI0.out, htl, show least ≤ (n : Int) by omega, show (n : Int) ≤ most by omega]⟩
                · have eli : (65535 : Int) < (t.length : Int) := by omega
                  go_wp2_with fail
                  go_meet
                  case rel => exact ⟨rfl, by simp [fitA, HI0.out, htl]⟩
          · have ei0 : (i != 0) = true := by simpa using hi0
            have HI0 := Lib.hid hi0
            clear hi0
            go_wp2_with fail
            go_meet
            case rel => exact ⟨rfl, by simp [fitA, HI0.out]⟩
      · by_cases hi1 : (1 : Int) ≤ i
        · cases fcode
          · by_cases hc0 : c = 0
            · have ec0 : (c != 0) = false := by simp [hc0]
              have HC0 := Lib.hid hc0
              clear hc0
              cases ftext
              · cases ht0 : (t == [])
                · go_wp2_with fail
                  go_meet
                  case rel => exact ⟨rfl, by simp [fitA, hi1, HC0.out, ht0]⟩
                · by_cases htl : t.length ≤ 65535
                  · have eli : ¬ (65535 : Int) < (t.length : Int) := by omega
                    cases fcodes
                    · by_cases hcn : cn = 0
                      · obtain ⟨ci, hci⟩ : ∃ ci : Int, (cn : Int) = ci := ⟨_, rfl⟩
                        have ecn : ¬ (0 : Int) < ci := by omega
                        have HCN := Lib.hid hcn
                        clear hcn
                        by_cases hle : (n : Int) < least
                        · go_wp2_with fail
                          go_meet
                          case rel => exact ⟨rfl, by simp [fitA, hi1, HC0.out, ht0, htl, HCN.out, show ¬ least ≤ (n : Int) by omega]⟩
                        · by_cases hmo : most < (n : Int)
                          · go_wp2_with fail
                            go_meet
                            case rel => exact ⟨rfl, by simp [fitA, hi1, HC0.out, ht0, htl, HCN.out, show ¬ (n : Int) ≤ most by omega]⟩
                          · go_wp2_with fail
                            go_meet
                            case rel => exact ⟨rfl, by simp [fitA, hi1, HC0.out, ht0, htl, HCN.out, show least ≤ (n : Int) by omega, show (n : Int) ≤ most by omega]⟩
                      · have ecn : (0 : Int) < (cn : Int) := by omega
                        have HCN := Lib.hid hcn
                        clear hcn
                        go_wp2_with fail
                        go_meet
                        case rel => exact ⟨rfl, by simp [fitA, hi1, HC0.out, ht0, htl, HCN.out]⟩
                    · by_cases hle : (n : Int) < least
                      · go_wp2_with fail
                        go_meet
                        case rel => exact ⟨rfl, by simp [fitA, hi1, HC0.out, ht0, htl, show ¬ least ≤ (n : Int) by omega]⟩
                      · by_cases hmo : most < (n : Int)
                        · go_wp2_with fail
                          go_meet
                          case rel => exact ⟨rfl, by simp [fitA, hi1, HC0.out, ht0, htl, show ¬ (n : Int) ≤ most by omega]⟩
                        · go_wp2_with fail
                          go_meet
                          case rel => exact ⟨rfl, by simp [fitA, hi1, HC0.out, ht0, htl, show least ≤ (n : Int) by omega, show (n : Int) ≤ most by omega]⟩
                  · have eli : (65535 : Int) < (t.length : Int) := by omega
                    go_wp2_with fail
                    go_meet
                    case rel => exact ⟨rfl, by simp [fitA, hi1, HC0.out, ht0, htl]⟩
              · by_cases htl : t.length ≤ 65535
                · have eli : ¬ (65535 : Int) < (t.length : Int) := by omega
                  cases fcodes
                  · by_cases hcn : cn = 0
                    · obtain ⟨ci, hci⟩ : ∃ ci : Int, (cn : Int) = ci := ⟨_, rfl⟩
                      have ecn : ¬ (0 : Int) < ci := by omega
                      have HCN := Lib.hid hcn
                      clear hcn
                      by_cases hle : (n : Int) < least
                      · go_wp2_with fail
                        go_meet
                        case rel => exact ⟨rfl, by simp [fitA, hi1, HC0.out, htl, HCN.out, show ¬ least ≤ (n : Int) by omega]⟩
                      · by_cases hmo : most < (n : Int)
                        · go_wp2_with fail
                          go_meet
                          case rel => exact ⟨rfl, by simp [fitA, hi1, HC0.out, htl, HCN.out, show ¬ (n : Int) ≤ most by omega]⟩
                        · go_wp2_with fail
                          go_meet
                          case rel => exact ⟨rfl, by simp [fitA, hi1, HC0.out, htl, HCN.out, show least ≤ (n : Int) by omega, show (n : Int) ≤ most by omega]⟩
                    · have ecn : (0 : Int) < (cn : Int) := by omega
                      have HCN := Lib.hid hcn
                      clear hcn
                      go_wp2_with fail
                      go_meet
                      case rel => exact ⟨rfl, by simp [fitA, hi1, HC0.out, htl, HCN.out]⟩
                  · by_cases hle : (n : Int) < least
                    · go_wp2_with fail
                      go_meet
                      case rel => exact ⟨rfl, by simp [fitA, hi1, HC0.out, htl, show ¬ least ≤ (n : Int) by omega]⟩
                    · by_cases hmo : most < (n : Int)
                      · go_wp2_with fail
                        go_meet
                        case rel => exact ⟨rfl, by simp [fitA, hi1, HC0.out, htl, show ¬ (n : Int) ≤ most by omega]⟩
                      · go_wp2_with fail
                        go_meet
                        case rel => exact ⟨rfl, by simp [fitA, hi1, HC0.out, htl, show least ≤ (n : Int) by omega, show (n : Int) ≤ most by omega]⟩
                · have eli : (65535 : Int) < (t.length : Int) := by omega
                  go_wp2_with fail
                  go_meet
                  case rel => exact ⟨rfl, by simp [fitA, hi1, HC0.out, htl]⟩
            · have ec0 : (c != 0) = true := by simpa using hc0
              have HC0 := Lib.hid hc0
              clear hc0
              go_wp2_with fail
              go_meet
              case rel => exact ⟨rfl, by simp [fitA, hi1, HC0.out]⟩
          · cases ftext
            · cases ht0 : (t == [])
              · go_wp2_with fail
                go_meet
                case rel => exact ⟨rfl, by simp [fitA, hi1, ht0]⟩
              · by_cases htl : t.length ≤ 65535
                · have eli : ¬ (65535 : Int) < (t.length : Int) := by omega
                  cases fcodes
                  · by_cases hcn : cn = 0
                    · obtain ⟨ci, hci⟩ : ∃ ci : Int, (cn : Int) = ci := ⟨_, rfl⟩
                      have ecn : ¬ (0 : Int) < ci := by omega
                      have HCN := Lib.hid hcn
                      clear hcn
                      by_cases hle : (n : Int) < least
                      · go_wp2_with fail
                        go_meet
                        case rel => exact ⟨rfl, by simp [fitA, hi1, ht0, htl, HCN.out, show ¬ least ≤ (n : Int) by omega]⟩
                      · by_cases hmo : most < (n : Int)
                        · go_wp2_with fail
                          go_meet
                          case rel => exact ⟨rfl, by simp [fitA, hi1, ht0, htl, HCN.out, show ¬ (n : Int) ≤ most by omega]⟩
                        · go_wp2_with fail
                          go_meet
                          case rel => exact ⟨rfl, by simp [fitA, hi1, ht0, htl, HCN.out, show least ≤ (n : Int) by omega, show (n : Int) ≤ most by omega]⟩
                    · have ecn : (0 : Int) < (cn : Int) := by omega
                      have HCN := Lib.hid hcn
                      clear hcn
                      go_wp2_with fail
                      go_meet
                      case rel => exact ⟨rfl, by simp [fitA, hi1, ht0, htl, HCN.out]⟩
                  · by_cases hle : (n : Int) < least
                    · go_wp2_with fail
                      go_meet
                      case rel => exact ⟨rfl, by simp [fitA, hi1, ht0, htl, show ¬ least ≤ (n : Int) by omega]⟩
                    · by_cases hmo : most < (n : Int)
                      · go_wp2_with fail
                        go_meet
                        case rel => exact ⟨rfl, by simp [fitA, hi1, ht0, htl, show ¬ (n : Int) ≤ most by omega]⟩
                      · go_wp2_with fail
                        go_meet
                        case rel => exact ⟨rfl, by simp [fitA, hi1, ht0, htl, show least ≤ (n : Int) by omega, show (n : Int) ≤ most by omega]⟩
                · have eli : (65535 : Int) < (t.length : Int) := by omega
                  go_wp2_with fail
                  go_meet
                  case rel => exact ⟨rfl, by simp [fitA, hi1, ht0, htl]⟩
            · by_cases htl : t.length ≤ 65535
              · have eli : ¬ (65535 : Int) < (t.length : Int) := by omega
                cases fcodes
                · by_cases hcn : cn = 0
                  · obtain ⟨ci, hci⟩ : ∃ ci : Int, (cn : Int) = ci := ⟨_, rfl⟩
                    have ecn : ¬ (0 : Int) < ci := by omega
                    have HCN := Lib.hid hcn
                    clear hcn
                    by_cases hle : (n : Int) < least
                    · go_wp2_with fail
                      go_meet
                      case rel => exact ⟨rfl, by simp [fitA, hi1, htl, HCN.out, show ¬ least ≤ (n : Int) by omega]⟩
                    · by_cases hmo : most < (n : Int)
                      · go_wp2_with fail
                        go_meet
                        case rel => exact ⟨rfl, by simp [fitA, hi1, htl, HCN.out, show ¬ (n : Int) ≤ most by omega]⟩
                      · go_wp2_with fail
                        go_meet
                        case rel => exact ⟨rfl, by simp [fitA, hi1, htl, HCN.out, show least ≤ (n : Int) by omega, show (n : Int) ≤ most by omega]⟩
                  · have ecn : (0 : Int) < (cn : Int) := by omega
                    have HCN := Lib.hid hcn
                    clear hcn
                    go_wp2_with fail
                    go_meet
                    case rel => exact ⟨rfl, by simp [fitA, hi1, htl, HCN.out]⟩
                · by_cases hle : (n : Int) < least
                  · go_wp2_with fail
                    go_meet
                    case rel => exact ⟨rfl, by simp [fitA, hi1, htl, show ¬ least ≤ (n : Int) by omega]⟩
                  · by_cases hmo : most < (n : Int)
                    · go_wp2_with fail
                      go_meet
                      case rel => exact ⟨rfl, by simp [fitA, hi1, htl, show ¬ (n : Int) ≤ most by omega]⟩
                    · go_wp2_with fail
                      go_meet
                      case rel => exact ⟨rfl, by simp [fitA, hi1, htl, show least ≤ (n : Int) by omega, show (n : Int) ≤ most by omega]⟩
              · have eli : (65535 : Int) < (t.length : Int) := by omega
                go_wp2_with fail
                go_meet
                case rel => exact ⟨rfl, by simp [fitA, hi1, htl]⟩
        · go_wp2_with fail
          go_meet
          case rel => exact ⟨rfl, by simp [fitA, hi1]⟩
    case rest =>
      obtain ⟨rfl, rfl⟩ := hcut
      generalize hAA : (fitA ⟨fid, fcode, ftext, fbody, fcodes, least, most⟩ i c t cn && (decide (least ≤ (n : Int)) && decide ((n : Int) ≤ most))) = oA at *
      have HAA := Lib.hid hAA
      clear hAA
      cases oA
      · go_wp2_with fail
        go_ret
        exact ⟨by rw [HFC.out]; rfl, HB.out⟩
      · have hx := HX.out
        have c4 := hx.cell 4 rfl; have c5 := hx.cell 5 rfl; have c6 := hx.cell 6 rfl; have c7 := hx.cell 7 rfl; have c8 := hx.cell 8 rfl
        clear hx
        have hF3 : FoAt S wc b.l bl bn bc := HE.out.1.same (fun x hx hlt => HB.out.block x hlt) (fun _ hx _ => hx)
        have hS3 : ∀ x, S x → x < wc.heap.size := fun x hx => Nat.lt_of_lt_of_le (HS.out x hx) HB.out.size
        have hvz : (headM b.k b.i b.b b.t bn 0 0 0 [] 0 && sameM b.l .nil) = zeroB b := by unfold zeroB; rw [HLEN.out.2.2]
        have hC5 := rsameG b.l .nil b.k b.i b.b 0 0 0 b.t [] bl none bn bc 0 0 S wc hF3 (FoAt.nil S wc) hS3
        rw [hvz] at hC5
        have HC5 := Lib.hid hC5
        have HC6 := Lib.hid (rvalidN (d := b) hF3 hS3)
        rw [← valid_eq] at HC6
        clear hC5 hF3 hS3 hvz
        go_upto_region 28 with fail
        go_cut [121] from 104 to 121 (fun s121 wx => (Below w.heap.size w wx ∧ Blk wx w.heap.size (V11 k i c t b bl bn bc cl cn cc l n cap)) ∧ s121 = .bool (!(fitC ⟨fid, fcode, ftext, fbody, fcodes, least, most⟩ b)))
        case first =>
          cases fbody
          · generalize hvd : zeroB b = vd at *
            have HVD := Lib.hid hvd
            clear hvd
            cases vd
            · go_wp2_with (go_at_call 49; (with_reducible refine HC5.out.mono ?_); rintro e9 w9 ⟨rfl, hB9⟩; have HB9 := Lib.hid hB9; clear hB9)
              go_meet
              case rel => exact ⟨⟨HB.out.trans (HB9.out.mono HB.out.size), HX.out.below HB9.out⟩, by simp [fitC, HVD.out]⟩
            · go_wp2_with (go_at_call 49; (with_reducible refine HC5.out.mono ?_); rintro e9 w9 ⟨rfl, hB9⟩; have HB9 := Lib.hid hB9; clear hB9)
              go_meet
              case rel => exact ⟨⟨HB.out.trans (HB9.out.mono HB.out.size), HX.out.below HB9.out⟩, by simp [fitC, HVD.out]⟩
          · generalize hvd : validD b = vd at *
            have HVD := Lib.hid hvd
            clear hvd
            cases vd
            · go_wp2_with (go_at_call 77; (with_reducible refine HC6.out.mono ?_); rintro e9 w9 ⟨rfl, hB9⟩; have HB9 := Lib.hid hB9; clear hB9)
              go_meet
              case rel => exact ⟨⟨HB.out.trans (HB9.out.mono HB.out.size), HX.out.below HB9.out⟩, by simp [fitC, HVD.out]⟩
            · go_wp2_with (go_at_call 77; (with_reducible refine HC6.out.mono ?_); rintro e9 w9 ⟨rfl, hB9⟩; have HB9 := Lib.hid hB9; clear hB9)
              go_meet
              case rel => exact ⟨⟨HB.out.trans (HB9.out.mono HB.out.size), HX.out.below HB9.out⟩, by simp [fitC, HVD.out]⟩
        case rest =>
          obtain ⟨⟨hBc, hXc⟩, rfl⟩ := hcut
          have HBc := Lib.hid hBc
          have HXc := Lib.hid hXc
          clear hBc hXc c0 c1 c2 c3 c4 c5 c6 c7 c8 c9 c10 HC5 HC6 HAA HX HB
          generalize hCC : fitC ⟨fid, fcode, ftext, fbody, fcodes, least, most⟩ b = oC at *
          clear hCC
          have g10 := HXc.out.cell 10 rfl
          cases oC
          · go_wp2_with fail
            go_ret
            exact ⟨by rw [HFC.out]; rfl, HBc.out⟩
          · have hr0 : rrightL (k == 4) kids = res := by rw [HFC.out]; rfl
            have H0 := Lib.hid (show ERRel (k == 4) kids w res (.int .i64 0) wc from ⟨.nil, kids, rfl, rfl, HBc.out, hr0⟩)
            have HALL := Lib.hid hall
            clear hr0 HFC hall
            go_wp2_with fail
            go_loopw [125] (fun t125 wr => ERRel (k == 4) kids w res t125 wr ∧ Blk wr w.heap.size (V11 k i c t b bl bn bc cl cn cc l n cap)) (fun t125 _ => n - (intOf t125).toNat)
            case atStart => exact ⟨H0.out, HXc.out⟩
            case round =>
              obtain ⟨⟨dn, rest, rfl, hk, hB1, hq⟩, hX1⟩ := hrel
              have hlen := HLEN.out.1
              rw [hk, Eo.len_app] at hlen
              have HB1 := Lib.hid hB1
              have HX1 := Lib.hid hX1
              have hFr : EoAt S wr kids l n cap := HE.out.2.2.same (fun x hx hlt => hB1.block x hlt) (fun x hx _ => hx)
              clear hB1 hX1 H0 g10
              have g0 := HX1.out.cell 0 rfl
              have g10 := HX1.out.cell 10 rfl
              cases rest with
              | nil =>
                have hj : ¬ (dn.len : Int) < (n : Int) := by have : Eo.len .nil = 0 := rfl; omega
                rw [rrightL] at hq
                have HR := Lib.hid hq
                clear hq hk hlen hFr
                go_wp2_with fail
                go_ret
                exact ⟨by rw [← HR.out]; rfl, HB1.out⟩
              | cons k2 i2 c2 t2 b2 cs2 ks rest2 =>
                have hlr : (Eo.cons k2 i2 c2 t2 b2 cs2 ks rest2).len = rest2.len + 1 := rfl
                have hjn : dn.len < n := by omega
                have hj : (dn.len : Int) < (n : Int) := by omega
                rw [hk] at hFr
                obtain ⟨bb, off, bl2, bn2, bc2, cl2, cn2, cc2, l2, n2, cap2, rfl, hE2, hcell, hnb, _⟩ := hFr.elem
                have v0 := hcell 0 (by omega); have v1 := hcell 1 (by omega); have v2 := hcell 2 (by omega); have v3 := hcell 3 (by omega); have v4 := hcell 4 (by omega); have v5 := hcell 5 (by omega); have v6 := hcell 6 (by omega); have v7 := hcell 7 (by omega); have v8 := hcell 8 (by omega); have v9 := hcell 9 (by omega); have v10 := hcell 10 (by omega)
                simp only [V11, List.getElem?_cons_zero, List.getElem?_cons_succ, Nat.add_zero] at v0 v1 v2 v3 v4 v5 v6 v7 v8 v9 v10
                have hOK : ERGOK ks := by
                  have hal := HALL.out
                  rw [hk] at hal
                  exact (Eo.All.split dn hal).1
                have hC := hOK k2 i2 c2 t2 b2 cs2 bl2 bn2 bc2 cl2 cn2 cc2 l2 n2 cap2 S wr hE2 (fun x hx => Nat.lt_of_lt_of_le (HS.out x hx) HB1.out.size)
                unfold vE at hC
                have hq2 : ((!(!(k == 4) && k2 == 0) && rright1 k2 i2 c2 t2 b2 cs2 ks) && rrightL (k == 4) rest2) = res := by rw [← hq, rrightL]; rfl
                generalize rright1 k2 i2 c2 t2 b2 cs2 ks = r at *
                have HC := Lib.hid hC
                have HKK := Lib.hid hk
                have HJ := Lib.hid hjn
                clear hC hE2 hOK hk hcell hlen hlr hjn hq hFr
                generalize hjj : dn.len = j at *
                have HJJ := Lib.hid hjj
                clear hjj
                generalize hzz : (!(!(k == 4) && k2 == 0)) = zz at *
                have HZ := Lib.hid (show True ∧ zz = zz from ⟨trivial, rfl⟩)
                clear HZ
                cases hk4 : (k == 4)
                · have ek : (k != 4) = true := by simpa using hk4
                  cases hk2 : (k2 == 0)
                  · rw [hk4, hk2] at hzz
                    have HZ := Lib.hid (show zz = true from hzz.symm)
                    have HQ := Lib.hid hq2
                    have HK4 := Lib.hid hk4
                    clear hzz hq2 hk4
                    cases r
                    · have hrf : res = false := by rw [← HQ.out]; simp
                      have HRF := Lib.hid hrf
                      clear hrf
                      go_wp2_with (go_at_call 39; (with_reducible refine HC.out.mono ?_); rintro e w4 ⟨rfl, hB4⟩)
                      go_ret
                      exact ⟨by rw [HRF.out]; rfl, HB1.out.trans (hB4.mono HB1.out.size)⟩
                    · have hrf : rrightL (k == 4) rest2 = res := by rw [← HQ.out, HZ.out]; simp
                      have HRF := Lib.hid hrf
                      clear hrf
                      go_wp2_with (go_at_call 39; (with_reducible refine HC.out.mono ?_); rintro e w4 ⟨rfl, hB4⟩; have HB4 := Lib.hid hB4; clear hB4)
                      go_roundw
                      case rel =>
                        refine ⟨⟨dn.app (.cons k2 i2 c2 t2 b2 cs2 ks .nil), rest2, ?_, ?_, HB1.out.trans (HB4.out.mono HB1.out.size), by have h := HRF.out; rw [HK4.out] at h; exact h⟩, HX1.out.below HB4.out⟩
                        · rw [Eo.len_app, HJJ.out, show (Eo.cons k2 i2 c2 t2 b2 cs2 ks .nil).len = 1 from rfl]; go_num
                        · rw [Eo.app_assoc]; exact HKK.out
                      case measure => simp [intOf]; have := HJ.out; omega
                  · have hrf : res = false := by rw [← hq2, ← hzz, hk4, hk2]; rfl
                    have HRF := Lib.hid hrf
                    clear hrf hzz hq2 hk4
                    go_wp2_with fail
                    go_ret
                    exact ⟨by rw [HRF.out]; rfl, HB1.out⟩
                · have ek : (k != 4) = false := by simpa using hk4
                  rw [hk4] at hzz
                  have HZ := Lib.hid (show zz = true from hzz.symm)
                  have HQ := Lib.hid hq2
                  have HK4 := Lib.hid hk4
                  clear hzz hq2 hk4
                  cases r
                  · have hrf : res = false := by rw [← HQ.out]; simp
                    have HRF := Lib.hid hrf
                    clear hrf
                    go_wp2_with (go_at_call 39; (with_reducible refine HC.out.mono ?_); rintro e w4 ⟨rfl, hB4⟩)
                    go_ret
                    exact ⟨by rw [HRF.out]; rfl, HB1.out.trans (hB4.mono HB1.out.size)⟩
                  · have hrf : rrightL (k == 4) rest2 = res := by rw [← HQ.out, HZ.out]; simp
                    have HRF := Lib.hid hrf
                    clear hrf
                    go_wp2_with (go_at_call 39; (with_reducible refine HC.out.mono ?_); rintro e w4 ⟨rfl, hB4⟩; have HB4 := Lib.hid hB4; clear hB4)
                    go_roundw
                    case rel =>
                      refine ⟨⟨dn.app (.cons k2 i2 c2 t2 b2 cs2 ks .nil), rest2, ?_, ?_, HB1.out.trans (HB4.out.mono HB1.out.size), by have h := HRF.out; rw [HK4.out] at h; exact h⟩, HX1.out.below HB4.out⟩
                      · rw [Eo.len_app, HJJ.out, show (Eo.cons k2 i2 c2 t2 b2 cs2 ks .nil).len = 1 from rfl]; go_num
                      · rw [Eo.app_assoc]; exact HKK.out
                    case measure => simp [intOf]; have := HJ.out; omega
theorem erightAll : ∀ f : Eo, f.All ERGOK
  | .nil => trivial
  | .cons _ _ _ _ _ _ kids rest => ⟨erightN (erightAll kids), erightAll rest⟩
theorem erightG (kids : Eo) : ERGOK kids := erightN (erightAll kids)
end Go.Proofs.YtbldidiibkcelaaGreatDoor

