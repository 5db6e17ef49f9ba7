/-
  fits (walk): an error has what its kind has. Not a statement of the seat.
-/
import Derived.Test.YtbldidiibkcelaaGreatDoorEFields
namespace Go.Proofs.YtbldidiibkcelaaGreatDoor
open Go.RowKit

def fitA (f : Fl) (i c : Int) (t : Bs) (cn : Nat) : Bool := (f.id == decide (1 ≤ i)) && ((f.id || i == 0) && ((f.code || c == 0) && ((f.text || t == []) && (decide (t.length ≤ 65535) && (f.codes || cn == 0)))))
def fitB (f : Fl) (k c : Int) (n : Nat) : Bool := (!(k == 10) || (decide (1 ≤ c) && decide (c ≤ 3))) && (decide (f.least ≤ (n : Int)) && decide ((n : Int) ≤ f.most))
def zeroB (b : Dt) : Bool := headM b.k b.i b.b b.t b.l.len 0 0 0 [] 0 && sameM b.l .nil
def fitC (f : Fl) (b : Dt) : Bool := if f.body then validD b else zeroB b
def fitsE (k i c : Int) (t : Bs) (b : Dt) (cn n : Nat) : Bool := (fldOk k && fitA (fldM k) i c t cn) && (fitB (fldM k) k c n && fitC (fldM k) b)
/-- the world behind an error's box -/
def ebox (w : World) (k i c : Int) (t : Bs) (b : Dt) (bl : Option Addr) (bn bc : Nat) (cl : Option Addr) (cn cc : Nat) (l : Option Addr) (n cap : Nat) : World :=
  w.alloc (.cells #[.int .i64 k, .int .i64 i, .int .i64 c, .string ⟨t.toArray⟩, .int .i64 b.k, .int .i64 b.i, .int .u64 b.b, .string ⟨b.t.toArray⟩, .slice bl bn bc, .slice cl cn cc, .slice l n cap] 29)
theorem ebox_blk (w : World) (k i c : Int) (t : Bs) (b : Dt) (bl : Option Addr) (bn bc : Nat) (cl : Option Addr) (cn cc : Nat) (l : Option Addr) (n cap : Nat) : Blk (ebox w k i c t b bl bn bc cl cn cc l n cap) w.heap.size (V11 k i c t b bl bn bc cl cn cc l n cap) := Blk.new w _ _
theorem ebox_below (w : World) (k i c : Int) (t : Bs) (b : Dt) (bl : Option Addr) (bn bc : Nat) (cl : Option Addr) (cn cc : Nat) (l : Option Addr) (n cap : Nat) : Below w.heap.size w (ebox w k i c t b bl bn bc cl cn cc l n cap) := (Below.refl _ _).alloc (Nat.le_refl _) _
def flbox (w : World) (f : Fl) : World := w.alloc (.cells #[.bool f.id, .bool f.code, .bool f.text, .bool f.body, .bool f.codes, .int .i64 f.least, .int .i64 f.most] 180)

set_option maxRecDepth 100000 in
set_option maxHeartbeats 8000000 in
theorem efitsN {S : Nat → Prop} {k i c : Int} {t : Bs} {b : Dt} {bl : Option Addr} {bn bc : Nat} {cl : Option Addr} {cn cc : Nat} {l : Option Addr} {n cap : Nat} {w : World} (hF : FoAt S w b.l bl bn bc) (hS : ∀ x, S x → x < w.heap.size) :
    Calls Tryz.prog 86 #[vE k i c t b bl bn bc cl cn cc l n cap] w (fun r w' => r = .returned (.bool (fitsE k i c t b cn n)) ∧ Below w.heap.size w w') := by
  have hX := ebox_blk w k i c t b bl bn bc cl cn cc l n cap
  have hB := ebox_below w k i c t b bl bn bc cl cn cc l n cap
  have HF := Lib.hid hF
  have HS := Lib.hid hS
  have hbn := hF.len
  have HBN := Lib.hid hbn
  clear hF hS hbn
  unfold vE
  go_enter Tryz.func86, Tryz.ntmps86
  go_upto_region 1 with (fail)
  change Code.wp _ _ _ _ (ebox w k i c t b bl bn bc cl cn cc l n cap)
  generalize ebox w k i c t b bl bn bc cl cn cc l n cap = w1 at *
  have hC := fieldsN k w1
  unfold vFl at hC
  have c0 := hX.cell 0 rfl
  have HB := Lib.hid hB
  have HX := Lib.hid hX
  clear hX hB
  generalize hfl : fldM k = f at *
  generalize hok : fldOk k = ok at *
  have HC := Lib.hid hC
  clear hC
  have HFL := Lib.hid (And.intro hfl hok)
  clear hfl hok
  go_upto_region 2 with (go_at_call 104; (with_reducible refine HC.out.mono ?_); rintro e w2 ⟨rfl, hB2⟩; have HB2 := Lib.hid hB2; clear hB2)
  change Code.wp _ _ _ _ (flbox w2 f)
  have hfb : Below w2.heap.size w2 (flbox w2 f) := (Below.refl _ _).alloc (Nat.le_refl _) _
  have hY : Blk (flbox w2 f) w2.heap.size (cFl f) := Blk.new w2 _ _
  have hX3 := (HX.out.below HB2.out).below hfb
  have hB3 := HB.out.trans ((HB2.out.trans (hfb.mono HB2.out.size)).mono HB.out.size)
  have HX3 := Lib.hid hX3
  have HY := Lib.hid hY
  have HB3 := Lib.hid hB3
  clear hfb HC c0
  generalize flbox w2 f = w3 at *
  have c0 := hX3.cell 0 rfl; have c1 := hX3.cell 1 rfl; have c2 := hX3.cell 2 rfl; have c3 := hX3.cell 3 rfl; have c9 := hX3.cell 9 rfl; have c10 := hX3.cell 10 rfl
  have y0 := hY.cell 0 rfl; have y1 := hY.cell 1 rfl; have y2 := hY.cell 2 rfl; have y3 := hY.cell 3 rfl; have y4 := hY.cell 4 rfl; have y5 := hY.cell 5 rfl; have y6 := hY.cell 6 rfl
  clear hX3 hY hB3
  obtain ⟨fid, fcode, ftext, fbody, fcodes, least, most⟩ := f
  simp only at y0 y1 y2 y3 y4 y5 y6
  go_cut [67] from 11 to 67 (fun s67 wx => wx = w3 ∧ s67 = .bool (!(ok && fitA ⟨fid, fcode, ftext, fbody, fcodes, least, most⟩ i c t cn)))
  case first =>
    cases ok
    · go_wp2_with fail
      go_meet
      case rel => exact ⟨rfl, by simp [fitA]⟩
    · cases fid
      · by_cases hi1 : (1 : Int) ≤ i
        · go_wp2_with fail
          go_meet
          case rel => exact ⟨rfl, by simp [fitA, hi1]⟩
        · by_cases hi0 : i = 0
          · have ei0 : (i != 0) = false := by simp [hi0]
            have HI0 := Lib.hid hi0
            clear hi0
            cases fcode
            · by_cases hc0 : c = 0
              · have ec0 : (c != 0) = false := by simp [hc0]
                have HC0 := Lib.hid hc0
                clear hc0
                cases ftext
                · cases ht0 : (t == [])
                  · go_wp2_with fail
                    go_meet
                    case rel => exact ⟨rfl, by simp [fitA, HI0.out, HC0.out, ht0]⟩
                  · by_cases htl : t.length ≤ 65535
                    · have eli : ¬ (65535 : Int) < (t.length : Int) := by omega
                      cases fcodes
                      · by_cases hcn : cn = 0
                        · have ecn : ¬ (0 : Int) < (cn : Int) := by omega
                          have HCN := Lib.hid hcn
                          clear hcn
                          go_wp2_with fail
                          go_meet
                          case rel => exact ⟨rfl, by simp [fitA, HI0.out, HC0.out, ht0, htl, HCN.out]⟩
                        · have ecn : (0 : Int) < (cn : Int) := by omega
                          have HCN := Lib.hid hcn
                          clear hcn
                          go_wp2_with fail
                          go_meet
                          case rel => exact ⟨rfl, by simp [fitA, HI0.out, HC0.out, ht0, htl, HCN.out, Nat.pos_of_ne_zero HCN.out]⟩
                      · go_wp2_with fail
                        go_meet
                        case rel => exact ⟨rfl, by simp [fitA, HI0.out, HC0.out, ht0, htl]⟩
                    · have eli : (65535 : Int) < (t.length : Int) := by omega
                      go_wp2_with fail
                      go_meet
                      case rel => exact ⟨rfl, by simp [fitA, HI0.out, HC0.out, ht0, htl]⟩
                · by_cases htl : t.length ≤ 65535
                  · have eli : ¬ (65535 : Int) < (t.length : Int) := by omega
                    cases fcodes
                    · by_cases hcn : cn = 0
                      · have ecn : ¬ (0 : Int) < (cn : Int) := by omega
                        have HCN := Lib.hid hcn
                        clear hcn
                        go_wp2_with fail
                        go_meet
                        case rel => exact ⟨rfl, by simp [fitA, HI0.out, HC0.out, htl, HCN.out]⟩
                      · have ecn : (0 : Int) < (cn : Int) := by omega
                        have HCN := Lib.hid hcn
                        clear hcn
                        go_wp2_with fail
                        go_meet
                        case rel => exact ⟨rfl, by simp [fitA, HI0.out, HC0.out, htl, HCN.out, Nat.pos_of_ne_zero HCN.out]⟩
                    · go_wp2_with fail
                      go_meet
                      case rel => exact ⟨rfl, by simp [fitA, HI0.out, HC0.out, htl]⟩
                  · have eli : (65535 : Int) < (t.length : Int) := by omega
                    go_wp2_with fail
                    go_meet
                    case rel => exact ⟨rfl, by simp [fitA, HI0.out, HC0.out, htl]⟩
              · have ec0 : (c != 0) = true := by simpa using hc0
                have HC0 := Lib.hid hc0
                clear hc0
                go_wp2_with fail
                go_meet
                case rel => exact ⟨rfl, by simp [fitA, HI0.out, HC0.out]⟩
            · cases ftext
              · cases ht0 : (t == [])
                · go_wp2_with fail
                  go_meet
                  case rel => exact ⟨rfl, by simp [fitA, HI0.out, ht0]⟩
                · by_cases htl : t.length ≤ 65535
                  · have eli : ¬ (65535 : Int) < (t.length : Int) := by omega
                    cases fcodes
                    · by_cases hcn : cn = 0
                      · have ecn : ¬ (0 : Int) < (cn : Int) := by omega
                        have HCN := Lib.hid hcn
                        clear hcn
                        go_wp2_with fail
                        go_meet
                        case rel => exact ⟨rfl, by simp [fitA, HI0.out, ht0, htl, HCN.out]⟩
                      · have ecn : (0 : Int) < (cn : Int) := by omega
                        have HCN := Lib.hid hcn
                        clear hcn
                        go_wp2_with fail
                        go_meet
                        case rel => exact ⟨rfl, by simp [fitA, HI0.out, ht0, htl, HCN.out, Nat.pos_of_ne_zero HCN.out]⟩
                    · go_wp2_with fail
                      go_meet
                      case rel => exact ⟨rfl, by simp [fitA, HI0.out, ht0, htl]⟩
                  · have eli : (65535 : Int) < (t.length : Int) := by omega
                    go_wp2_with fail
                    go_meet
                    case rel => exact ⟨rfl, by simp [fitA, HI0.out, ht0, htl]⟩
              · by_cases htl : t.length ≤ 65535
                · have eli : ¬ (65535 : Int) < (t.length : Int) := by omega
                  cases fcodes
                  · by_cases hcn : cn = 0
                    · have ecn : ¬ (0 : Int) < (cn : Int) := by omega
                      have HCN := Lib.hid hcn
                      clear hcn
                      go_wp2_with fail
                      go_meet
                      case rel => exact ⟨rfl, by simp [fitA, HI0.out, htl, HCN.out]⟩
                    · have ecn : (0 : Int) < (cn : Int) := by omega
                      have HCN := Lib.hid hcn
                      clear hcn
                      go_wp2_with fail
                      go_meet
                      case rel => exact ⟨rfl, by simp [fitA, HI0.out, htl, HCN.out, Nat.pos_of_ne_zero HCN.out]⟩
                  · go_wp2_with fail
                    go_meet
                    case rel => exact ⟨rfl, by simp [fitA, HI0.out, htl]⟩
                · have eli : (65535 : Int) < (t.length : Int) := by omega
                  go_wp2_with fail
                  go_meet
                  case rel => exact ⟨rfl, by simp [fitA, HI0.out, htl]⟩
          · have ei0 : (i != 0) = true := by simpa using hi0
            have HI0 := Lib.hid hi0
            clear hi0
            go_wp2_with fail
            go_meet
            case rel => exact ⟨rfl, by simp [fitA, HI0.out]⟩
      · by_cases hi1 : (1 : Int) ≤ i
        · cases fcode
          · by_cases hc0 : c = 0
            · have ec0 : (c != 0) = false := by simp [hc0]
              have HC0 := Lib.hid hc0
              clear hc0
              cases ftext
              · cases ht0 : (t == [])
                · go_wp2_with fail
                  go_meet
                  case rel => exact ⟨rfl, by simp [fitA, hi1, HC0.out, ht0]⟩
                · by_cases htl : t.length ≤ 65535
                  · have eli : ¬ (65535 : Int) < (t.length : Int) := by omega
                    cases fcodes
                    · by_cases hcn : cn = 0
                      · have ecn : ¬ (0 : Int) < (cn : Int) := by omega
                        have HCN := Lib.hid hcn
                        clear hcn
                        go_wp2_with fail
                        go_meet
                        case rel => exact ⟨rfl, by simp [fitA, hi1, HC0.out, ht0, htl, HCN.out]⟩
                      · have ecn : (0 : Int) < (cn : Int) := by omega
                        have HCN := Lib.hid hcn
                        clear hcn
                        go_wp2_with fail
                        go_meet
                        case rel => exact ⟨rfl, by simp [fitA, hi1, HC0.out, ht0, htl, HCN.out, Nat.pos_of_ne_zero HCN.out]⟩
                    · go_wp2_with fail
                      go_meet
                      case rel => exact ⟨rfl, by simp [fitA, hi1, HC0.out, ht0, htl]⟩
                  · have eli : (65535 : Int) < (t.length : Int) := by omega
                    go_wp2_with fail
                    go_meet
                    case rel => exact ⟨rfl, by simp [fitA, hi1, HC0.out, ht0, htl]⟩
              · by_cases htl : t.length ≤ 65535
                · have eli : ¬ (65535 : Int) < (t.length : Int) := by omega
                  cases fcodes
                  · by_cases hcn : cn = 0
                    · have ecn : ¬ (0 : Int) < (cn : Int) := by omega
                      have HCN := Lib.hid hcn
                      clear hcn
                      go_wp2_with fail
                      go_meet
                      case rel => exact ⟨rfl, by simp [fitA, hi1, HC0.out, htl, HCN.out]⟩
                    · have ecn : (0 : Int) < (cn : Int) := by omega
                      have HCN := Lib.hid hcn
                      clear hcn
                      go_wp2_with fail
                      go_meet
                      case rel => exact ⟨rfl, by simp [fitA, hi1, HC0.out, htl, HCN.out, Nat.pos_of_ne_zero HCN.out]⟩
                  · go_wp2_with fail
                    go_meet
                    case rel => exact ⟨rfl, by simp [fitA, hi1, HC0.out, htl]⟩
                · have eli : (65535 : Int) < (t.length : Int) := by omega
                  go_wp2_with fail
                  go_meet
                  case rel => exact ⟨rfl, by simp [fitA, hi1, HC0.out, htl]⟩
            · have ec0 : (c != 0) = true := by simpa using hc0
              have HC0 := Lib.hid hc0
              clear hc0
              go_wp2_with fail
              go_meet
              case rel => exact ⟨rfl, by simp [fitA, hi1, HC0.out]⟩
          · cases ftext
            · cases ht0 : (t == [])
              · go_wp2_with fail
                go_meet
                case rel => exact ⟨rfl, by simp [fitA, hi1, ht0]⟩
              · by_cases htl : t.length ≤ 65535
                · have eli : ¬ (65535 : Int) < (t.length : Int) := by omega
                  cases fcodes
                  · by_cases hcn : cn = 0
                    · have ecn : ¬ (0 : Int) < (cn : Int) := by omega
                      have HCN := Lib.hid hcn
                      clear hcn
                      go_wp2_with fail
                      go_meet
                      case rel => exact ⟨rfl, by simp [fitA, hi1, ht0, htl, HCN.out]⟩
                    · have ecn : (0 : Int) < (cn : Int) := by omega
                      have HCN := Lib.hid hcn
                      clear hcn
                      go_wp2_with fail
                      go_meet
                      case rel => exact ⟨rfl, by simp [fitA, hi1, ht0, htl, HCN.out, Nat.pos_of_ne_zero HCN.out]⟩
                  · go_wp2_with fail
                    go_meet
                    case rel => exact ⟨rfl, by simp [fitA, hi1, ht0, htl]⟩
                · have eli : (65535 : Int) < (t.length : Int) := by omega
                  go_wp2_with fail
                  go_meet
                  case rel => exact ⟨rfl, by simp [fitA, hi1, ht0, htl]⟩
            · by_cases htl : t.length ≤ 65535
              · have eli : ¬ (65535 : Int) < (t.length : Int) := by omega
                cases fcodes
                · by_cases hcn : cn = 0
                  · have ecn : ¬ (0 : Int) < (cn : Int) := by omega
                    have HCN := Lib.hid hcn
                    clear hcn
                    go_wp2_with fail
                    go_meet
                    case rel => exact ⟨rfl, by simp [fitA, hi1, htl, HCN.out]⟩
                  · have ecn : (0 : Int) < (cn : Int) := by omega
                    have HCN := Lib.hid hcn
                    clear hcn
                    go_wp2_with fail
                    go_meet
                    case rel => exact ⟨rfl, by simp [fitA, hi1, htl, HCN.out, Nat.pos_of_ne_zero HCN.out]⟩
                · go_wp2_with fail
                  go_meet
                  case rel => exact ⟨rfl, by simp [fitA, hi1, htl]⟩
              · have eli : (65535 : Int) < (t.length : Int) := by omega
                go_wp2_with fail
                go_meet
                case rel => exact ⟨rfl, by simp [fitA, hi1, htl]⟩
        · go_wp2_with fail
          go_meet
          case rel => exact ⟨rfl, by simp [fitA, hi1]⟩
  case rest =>
    obtain ⟨rfl, rfl⟩ := hcut
    generalize hA : (ok && fitA ⟨fid, fcode, ftext, fbody, fcodes, least, most⟩ i c t cn) = oA at *
    have HA := Lib.hid hA
    clear hA
    cases oA
    · go_wp2_with fail
      go_ret
      exact ⟨by unfold fitsE; rw [HFL.out.1, HFL.out.2, HA.out]; rfl, HB3.out⟩
    · go_upto_region 4 with fail
      go_cut [96] from 68 to 96 (fun s96 wx => wx = wc ∧ s96 = .bool (!(fitB ⟨fid, fcode, ftext, fbody, fcodes, least, most⟩ k c n)))
      case first =>
        cases ek : (k == 10)
        · by_cases hle : (n : Int) < least
          · go_wp2_with fail
            go_meet
            case rel => exact ⟨rfl, by simp [fitB, ek, show ¬ least ≤ (n : Int) by omega]⟩
          · by_cases hmo : most < (n : Int)
            · go_wp2_with fail
              go_meet
              case rel => exact ⟨rfl, by simp [fitB, ek, show ¬ (n : Int) ≤ most by omega]⟩
            · go_wp2_with fail
              go_meet
              case rel => exact ⟨rfl, by simp [fitB, ek, show least ≤ (n : Int) by omega, show (n : Int) ≤ most by omega]⟩
        · by_cases hc1 : c < 1
          · go_wp2_with fail
            go_meet
            case rel => exact ⟨rfl, by simp [fitB, ek, show ¬ 1 ≤ c by omega]⟩
          · by_cases hc3 : 3 < c
            · go_wp2_with fail
              go_meet
              case rel => exact ⟨rfl, by simp [fitB, ek, show ¬ c ≤ 3 by omega]⟩
            · by_cases hle : (n : Int) < least
              · go_wp2_with fail
                go_meet
                case rel => exact ⟨rfl, by simp [fitB, ek, show 1 ≤ c by omega, show c ≤ 3 by omega, show ¬ least ≤ (n : Int) by omega]⟩
              · by_cases hmo : most < (n : Int)
                · go_wp2_with fail
                  go_meet
                  case rel => exact ⟨rfl, by simp [fitB, ek, show 1 ≤ c by omega, show c ≤ 3 by omega, show ¬ (n : Int) ≤ most by omega]⟩
                · go_wp2_with fail
                  go_meet
                  case rel => exact ⟨rfl, by simp [fitB, ek, show 1 ≤ c by omega, show c ≤ 3 by omega, show least ≤ (n : Int) by omega, show (n : Int) ≤ most by omega]⟩
      case rest =>
        obtain ⟨rfl, rfl⟩ := hcut
        generalize hBB : fitB ⟨fid, fcode, ftext, fbody, fcodes, least, most⟩ k c n = oB at *
        have HBB := Lib.hid hBB
        clear hBB
        cases oB
        · go_wp2_with fail
          go_ret
          exact ⟨by unfold fitsE; rw [HFL.out.1, HFL.out.2, HA.out, HBB.out]; rfl, HB3.out⟩
        · have hx := HX3.out
          have c4 := hx.cell 4 rfl; have c5 := hx.cell 5 rfl; have c6 := hx.cell 6 rfl; have c7 := hx.cell 7 rfl; have c8 := hx.cell 8 rfl
          clear hx
          have hF3 : FoAt S wc b.l bl bn bc := HF.out.same (fun x hx hlt => HB3.out.block x hlt) (fun _ hx _ => hx)
          have hS3 : ∀ x, S x → x < wc.heap.size := fun x hx => Nat.lt_of_lt_of_le (HS.out x hx) HB3.out.size
          cases fbody
          · have hC5 := sameG b.l .nil b.k b.i b.b 0 0 0 b.t [] bl none bn bc 0 0 S wc hF3 (FoAt.nil S wc) hS3
            have hvz : (headM b.k b.i b.b b.t bn 0 0 0 [] 0 && sameM b.l .nil) = zeroB b := by unfold zeroB; rw [HBN.out]
            rw [hvz] at hC5
            generalize hvd : zeroB b = vd at *
            have HVD := Lib.hid hvd
            have HC5 := Lib.hid hC5
            clear hF3 hS3 hvd hC5 hvz
            cases vd
            · go_wp2_with (go_at_call 46; (with_reducible refine HC5.out.mono ?_); rintro e9 w9 ⟨rfl, hB9⟩; have HB9 := Lib.hid hB9; clear hB9)
              go_ret
              refine ⟨?_, HB3.out.trans (HB9.out.mono HB3.out.size)⟩
              unfold fitsE
              rw [HFL.out.1, HFL.out.2, HA.out, HBB.out]
              simp [fitC, HVD.out]
            · go_wp2_with (go_at_call 46; (with_reducible refine HC5.out.mono ?_); rintro e9 w9 ⟨rfl, hB9⟩; have HB9 := Lib.hid hB9; clear hB9)
              go_ret
              refine ⟨?_, HB3.out.trans (HB9.out.mono HB3.out.size)⟩
              unfold fitsE
              rw [HFL.out.1, HFL.out.2, HA.out, HBB.out]
              simp [fitC, HVD.out]
          · have HC5 := Lib.hid (validN hF3 hS3)
            generalize hvd : validD b = vd at *
            have HVD := Lib.hid hvd
            clear hF3 hS3 hvd
            cases vd
            · go_wp2_with (go_at_call 105; (with_reducible refine HC5.out.mono ?_); rintro e9 w9 ⟨rfl, hB9⟩; have HB9 := Lib.hid hB9; have y39 := cellAt hB9 y3; clear hB9)
              go_ret
              refine ⟨?_, HB3.out.trans (HB9.out.mono HB3.out.size)⟩
              unfold fitsE
              rw [HFL.out.1, HFL.out.2, HA.out, HBB.out]
              simp [fitC, HVD.out]
            · go_wp2_with (go_at_call 105; (with_reducible refine HC5.out.mono ?_); rintro e9 w9 ⟨rfl, hB9⟩; have HB9 := Lib.hid hB9; have y39 := cellAt hB9 y3; clear hB9)
              go_ret
              refine ⟨?_, HB3.out.trans (HB9.out.mono HB3.out.size)⟩
              unfold fitsE
              rw [HFL.out.1, HFL.out.2, HA.out, HBB.out]
              simp [fitC, HVD.out]
end Go.Proofs.YtbldidiibkcelaaGreatDoor
