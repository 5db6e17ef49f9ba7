/-
  fields (walk): what a kind of error has. Not a statement of the seat.
-/
import Derived.Test.YtbldidiibkcelaaGreatDoorTEMem
import Derived.Test.YtbldidiibkcelaaGreatDoorTCount
import Derived.Deep.CutBlock
namespace Go.Proofs.YtbldidiibkcelaaGreatDoor
open Go.RowKit

/-- what a kind has -/
structure Fl where
  id : Bool
  code : Bool
  text : Bool
  body : Bool
  codes : Bool
  least : Int
  most : Int
def fldM (k : Int) : Fl :=
  if k = 0 then ⟨false, false, false, false, false, 0, 0⟩ else
  if k = 7 then ⟨false, false, false, false, false, 0, 0⟩ else
  if k = 1 then ⟨false, true, true, false, false, 0, 0⟩ else
  if k = 10 then ⟨false, true, true, false, false, 0, 0⟩ else
  if k = 2 then ⟨true, false, true, false, false, 0, 0⟩ else
  if k = 3 then ⟨true, false, true, false, false, 1, 1⟩ else
  if k = 4 then ⟨true, false, false, false, false, 0, 4096⟩ else
  if k = 5 then ⟨false, false, false, true, false, 0, 0⟩ else
  if k = 6 then ⟨false, false, false, false, true, 0, 0⟩ else
  if k = 8 then ⟨true, false, true, false, true, 0, 1⟩ else
  if k = 9 then ⟨true, true, true, false, false, 0, 0⟩ else
  ⟨false, false, false, false, false, 0, 0⟩
def fldOk (k : Int) : Bool := decide (0 ≤ k ∧ k ≤ 10)
def vFl (f : Fl) : Value := .agg #[.bool f.id, .bool f.code, .bool f.text, .bool f.body, .bool f.codes, .int .i64 f.least, .int .i64 f.most]
def cFl (f : Fl) : List Value := [.bool f.id, .bool f.code, .bool f.text, .bool f.body, .bool f.codes, .int .i64 f.least, .int .i64 f.most]
/-- the world behind the result's box -/
def fbox (w : World) : World := w.alloc (.cells #[.bool false, .bool false, .bool false, .bool false, .bool false, .int .i64 0, .int .i64 0] 180)
/-- a struct of seven fields is stored -/
def st7 (w : World) (b : Nat) (v0 v1 v2 v3 v4 v5 v6 : Value) : World :=
  ((((((w.setCell ⟨b, 0, none⟩ v0).setCell ⟨b, 1, none⟩ v1).setCell ⟨b, 2, none⟩ v2).setCell ⟨b, 3, none⟩ v3).setCell ⟨b, 4, none⟩ v4).setCell ⟨b, 5, none⟩ v5).setCell ⟨b, 6, none⟩ v6
theorem st7_blk {w : World} {b : Nat} {u0 u1 u2 u3 u4 u5 u6 : Value} (h : Blk w b [u0, u1, u2, u3, u4, u5, u6]) (v0 v1 v2 v3 v4 v5 v6 : Value) : Blk (st7 w b v0 v1 v2 v3 v4 v5 v6) b [v0, v1, v2, v3, v4, v5, v6] := by
  have := ((((((h.set (j := 0) v0).set (j := 1) v1).set (j := 2) v2).set (j := 3) v3).set (j := 4) v4).set (j := 5) v5).set (j := 6) v6
  simpa [st7] using this
theorem st7_kept {w : World} {b : Nat} (v0 v1 v2 v3 v4 v5 v6 : Value) : Kept (N1 b) w (st7 w b v0 v1 v2 v3 v4 v5 v6) :=
  (((((((Kept.refl (N1 b) w).put (p := ⟨b, 0, none⟩) v0 (fun _ => rfl)).put (p := ⟨b, 1, none⟩) v1 (fun _ => rfl)).put (p := ⟨b, 2, none⟩) v2 (fun _ => rfl)).put (p := ⟨b, 3, none⟩) v3 (fun _ => rfl)).put (p := ⟨b, 4, none⟩) v4 (fun _ => rfl)).put (p := ⟨b, 5, none⟩) v5 (fun _ => rfl)).put (p := ⟨b, 6, none⟩) v6 (fun _ => rfl)
theorem fl_res {tmps : Array Value} {w : World} {db : Nat} {v0 v1 v2 v3 v4 v5 v6 u : Value} (ht : tmps.getD 2 undef = .pointer (some ⟨db, 0, none⟩)) (hu : tmps.getD 3 undef = u) (h : Blk w db [v0, v1, v2, v3, v4, v5, v6]) :
    (results Tryz.f104 tmps).run Tryz.prog w = .ok (.tuple #[.agg #[v0, v1, v2, v3, v4, v5, v6], u]) w := by
  have c0 := h.cell 0 rfl
  have c1 := h.cell 1 rfl
  have c2 := h.cell 2 rfl
  have c3 := h.cell 3 rfl
  have c4 := h.cell 4 rfl
  have c5 := h.cell 5 rfl
  have c6 := h.cell 6 rfl
  have ht' : tmps[2]?.getD undef = .pointer (some ⟨db, 0, none⟩) := by simpa using ht
  have hu' : tmps[3]?.getD undef = u := by simpa using hu
  simp [results, Tryz.results104, go_sem, ht', hu', c0, c1, c2, c3, c4, c5, c6]
theorem fl_fin {tmps : Array Value} {w w1 : World} {k : Int} {u0 u1 u2 u3 u4 u5 u6 v0 v1 v2 v3 v4 v5 v6 u : Value} (ht : tmps.getD 2 undef = .pointer (some ⟨w.heap.size, 0, none⟩)) (hu : tmps.getD 3 undef = u) (hB : Below w.heap.size w w1) (h : Blk w1 w.heap.size [u0, u1, u2, u3, u4, u5, u6])
    (hf : [v0, v1, v2, v3, v4, v5, v6] = cFl (fldM k)) (hk : u = .bool (fldOk k)) :
    bodyPost Tryz.prog Tryz.f104 (fun e w' => e = .returned (.tuple #[vFl (fldM k), .bool (fldOk k)]) ∧ Below w.heap.size w w') Exit.ret { tmps := tmps, defers := [] } (st7 w1 w.heap.size v0 v1 v2 v3 v4 v5 v6) := by
  refine bodyPost_ret (fl_res ht hu (st7_blk h v0 v1 v2 v3 v4 v5 v6)) rfl ⟨?_, ?_⟩
  · rw [hk]
    simp only [cFl, List.cons.injEq, and_true] at hf
    obtain ⟨rfl, rfl, rfl, rfl, rfl, rfl, rfl⟩ := hf
    rfl
  · exact ((Kept.of' (N := N1 w.heap.size) hB).trans (st7_kept _ _ _ _ _ _ _)).below (Nat.le_refl _) (fun x hx e => by unfold N1 at e; omega)
set_option maxRecDepth 100000 in
set_option maxHeartbeats 4000000 in
theorem fieldsN (k : Int) (w : World) : Calls Tryz.prog 104 #[.int .i64 k] w (fun e w' => e = .returned (.tuple #[vFl (fldM k), .bool (fldOk k)]) ∧ Below w.heap.size w w') := by
  have hW := Blk.new w #[.bool false, .bool false, .bool false, .bool false, .bool false, .int .i64 0, .int .i64 0] 180
  have hB : Below w.heap.size w (fbox w) := (Below.refl _ _).alloc (Nat.le_refl _) _
  go_enter Tryz.func104, Tryz.ntmps104
  go_upto_region 1 with (fail)
  change Code.wp _ _ _ _ (fbox w)
  change Blk (fbox w) _ _ at hW
  generalize fbox w = w1 at *
  have HB := Lib.hid hB
  have HW := Lib.hid hW
  have c0 := hW.cell 0 rfl; have c1 := hW.cell 1 rfl; have c2 := hW.cell 2 rfl; have c3 := hW.cell 3 rfl; have c4 := hW.cell 4 rfl; have c5 := hW.cell 5 rfl; have c6 := hW.cell 6 rfl
  have f0 := hW.free 0 (by simp); have f1 := hW.free 1 (by simp); have f2 := hW.free 2 (by simp); have f3 := hW.free 3 (by simp); have f4 := hW.free 4 (by simp); have f5 := hW.free 5 (by simp); have f6 := hW.free 6 (by simp)
  clear hB hW
  by_cases h0 : k = 0
  · subst h0
    go_wp2_with fail
    exact fl_fin rfl rfl HB.out HW.out rfl rfl
  by_cases h7 : k = 7
  · subst h7
    go_wp2_with fail
    exact fl_fin rfl rfl HB.out HW.out rfl rfl
  by_cases h1 : k = 1
  · subst h1
    go_wp2_with fail
    exact fl_fin rfl rfl HB.out HW.out rfl rfl
  by_cases h10 : k = 10
  · subst h10
    go_wp2_with fail
    exact fl_fin rfl rfl HB.out HW.out rfl rfl
  by_cases h2 : k = 2
  · subst h2
    go_wp2_with fail
    exact fl_fin rfl rfl HB.out HW.out rfl rfl
  by_cases h3 : k = 3
  · subst h3
    go_wp2_with fail
    exact fl_fin rfl rfl HB.out HW.out rfl rfl
  by_cases h4 : k = 4
  · subst h4
    go_wp2_with fail
    exact fl_fin rfl rfl HB.out HW.out rfl rfl
  by_cases h5 : k = 5
  · subst h5
    go_wp2_with fail
    exact fl_fin rfl rfl HB.out HW.out rfl rfl
  by_cases h6 : k = 6
  · subst h6
    go_wp2_with fail
    exact fl_fin rfl rfl HB.out HW.out rfl rfl
  by_cases h8 : k = 8
  · subst h8
    go_wp2_with fail
    exact fl_fin rfl rfl HB.out HW.out rfl rfl
  by_cases h9 : k = 9
  · subst h9
    go_wp2_with fail
    exact fl_fin rfl rfl HB.out HW.out rfl rfl
  have HF := Lib.hid (show fldM k = ⟨false, false, false, false, false, 0, 0⟩ by unfold fldM; simp [h0, h7, h1, h10, h2, h3, h4, h5, h6, h8, h9])
  have HK := Lib.hid (show fldOk k = false by unfold fldOk; simp only [decide_eq_false_iff_not]; omega)
  have e0 : (k == 0) = false := by simpa using h0
  have e7 : (k == 7) = false := by simpa using h7
  have e1 : (k == 1) = false := by simpa using h1
  have e10 : (k == 10) = false := by simpa using h10
  have e2 : (k == 2) = false := by simpa using h2
  have e3 : (k == 3) = false := by simpa using h3
  have e4 : (k == 4) = false := by simpa using h4
  have e5 : (k == 5) = false := by simpa using h5
  have e6 : (k == 6) = false := by simpa using h6
  have e8 : (k == 8) = false := by simpa using h8
  have e9 : (k == 9) = false := by simpa using h9
  clear h0 h7 h1 h10 h2 h3 h4 h5 h6 h8 h9
  go_wp2_with fail
  exact fl_fin rfl rfl HB.out HW.out (by rw [HF.out]; rfl) (by rw [HK.out]; rfl)
end Go.Proofs.YtbldidiibkcelaaGreatDoor

/-
  fits (walk): an error has what its kind has. Not a statement of the seat.
-/
namespace Go.Proofs.YtbldidiibkcelaaGreatDoor
open Go.RowKit

def fitA (f : Fl) (i c : Int) (t : Bs) (cn : Nat) : Bool := (f.id == decide (1 ≤ i)) && ((f.id || i == 0) && ((f.code || c == 0) && ((f.text || t == []) && (decide (t.length ≤ 65535) && (f.codes || cn == 0)))))
def fitB (f : Fl) (k c : Int) (n : Nat) : Bool := (!(k == 10) || (decide (1 ≤ c) && decide (c ≤ 3))) && (decide (f.least ≤ (n : Int)) && decide ((n : Int) ≤ f.most))
def zeroB (b : Dt) : Bool := headM b.k b.i b.b b.t b.l.len 0 0 0 [] 0 && sameM b.l .nil
def fitC (f : Fl) (b : Dt) : Bool := if f.body then validD b else zeroB b
def fitsE (k i c : Int) (t : Bs) (b : Dt) (cn n : Nat) : Bool := (fldOk k && fitA (fldM k) i c t cn) && (fitB (fldM k) k c n && fitC (fldM k) b)
/-- the world behind an error's box -/
def ebox (w : World) (k i c : Int) (t : Bs) (b : Dt) (bl : Option Addr) (bn bc : Nat) (cl : Option Addr) (cn cc : Nat) (l : Option Addr) (n cap : Nat) : World :=
  w.alloc (.cells #[.int .i64 k, .int .i64 i, .int .i64 c, .string ⟨t.toArray⟩, .int .i64 b.k, .int .i64 b.i, .int .u64 b.b, .string ⟨b.t.toArray⟩, .slice bl bn bc, .slice cl cn cc, .slice l n cap] 29)
theorem ebox_blk (w : World) (k i c : Int) (t : Bs) (b : Dt) (bl : Option Addr) (bn bc : Nat) (cl : Option Addr) (cn cc : Nat) (l : Option Addr) (n cap : Nat) : Blk (ebox w k i c t b bl bn bc cl cn cc l n cap) w.heap.size (V11 k i c t b bl bn bc cl cn cc l n cap) := Blk.new w _ _
theorem ebox_below (w : World) (k i c : Int) (t : Bs) (b : Dt) (bl : Option Addr) (bn bc : Nat) (cl : Option Addr) (cn cc : Nat) (l : Option Addr) (n cap : Nat) : Below w.heap.size w (ebox w k i c t b bl bn bc cl cn cc l n cap) := (Below.refl _ _).alloc (Nat.le_refl _) _
def flbox (w : World) (f : Fl) : World := w.alloc (.cells #[.bool f.id, .bool f.code, .bool f.text, .bool f.body, .bool f.codes, .int .i64 f.least, .int .i64 f.most] 180)
set_option maxRecDepth 100000 in
set_option maxHeartbeats 8000000 in
theorem efitsN {S : Nat → Prop} {k i c : Int} {t : Bs} {b : Dt} {bl : Option Addr} {bn bc : Nat} {cl : Option Addr} {cn cc : Nat} {l : Option Addr} {n cap : Nat} {w : World} (hF : FoAt S w b.l bl bn bc) (hS : ∀ x, S x → x < w.heap.size) :
    Calls Tryz.prog 86 #[vE k i c t b bl bn bc cl cn cc l n cap] w (fun r w' => r = .returned (.bool (fitsE k i c t b cn n)) ∧ Below w.heap.size w w') := by
  have hX := ebox_blk w k i c t b bl bn bc cl cn cc l n cap
  have hB := ebox_below w k i c t b bl bn bc cl cn cc l n cap
  have HF := Lib.hid hF
  have HS := Lib.hid hS
  have hbn := hF.len
  have HBN := Lib.hid hbn
  clear hF hS hbn
  unfold vE
  go_enter Tryz.func86, Tryz.ntmps86
  go_upto_region 1 with (fail)
  change Code.wp _ _ _ _ (ebox w k i c t b bl bn bc cl cn cc l n cap)
  generalize ebox w k i c t b bl bn bc cl cn cc l n cap = w1 at *
  have hC := fieldsN k w1
  unfold vFl at hC
  have c0 := hX.cell 0 rfl
  have HB := Lib.hid hB
  have HX := Lib.hid hX
  clear hX hB
  generalize hfl : fldM k = f at *
  generalize hok : fldOk k = ok at *
  have HC := Lib.hid hC
  clear hC
  have HFL := Lib.hid (And.intro hfl hok)
  clear hfl hok
  go_upto_region 2 with (go_at_call 104; (with_reducible refine HC.out.mono ?_); rintro e w2 ⟨rfl, hB2⟩; have HB2 := Lib.hid hB2; clear hB2)
  change Code.wp _ _ _ _ (flbox w2 f)
  have hfb : Below w2.heap.size w2 (flbox w2 f) := (Below.refl _ _).alloc (Nat.le_refl _) _
  have hY : Blk (flbox w2 f) w2.heap.size (cFl f) := Blk.new w2 _ _
  have hX3 := (HX.out.below HB2.out).below hfb
  have hB3 := HB.out.trans ((HB2.out.trans (hfb.mono HB2.out.size)).mono HB.out.size)
  have HX3 := Lib.hid hX3
  have HY := Lib.hid hY
  have HB3 := Lib.hid hB3
  clear hfb HC c0
  generalize flbox w2 f = w3 at *
  have c0 := hX3.cell 0 rfl; have c1 := hX3.cell 1 rfl; have c2 := hX3.cell 2 rfl; have c3 := hX3.cell 3 rfl; have c9 := hX3.cell 9 rfl; have c10 := hX3.cell 10 rfl
  have y0 := hY.cell 0 rfl; have y1 := hY.cell 1 rfl; have y2 := hY.cell 2 rfl; have y3 := hY.cell 3 rfl; have y4 := hY.cell 4 rfl; have y5 := hY.cell 5 rfl; have y6 := hY.cell 6 rfl
  clear hX3 hY hB3
  obtain ⟨fid, fcode, ftext, fbody, fcodes, least, most⟩ := f
  simp only at y0 y1 y2 y3 y4 y5 y6
  go_cut [67] from 11 to 67 (fun s67 wx => wx = w3 ∧ s67 = .bool (!(ok && fitA ⟨fid, fcode, ftext, fbody, fcodes, least, most⟩ i c t cn)))
  case first =>
    cases ok
    · go_wp2_with fail
      go_meet
      case rel => exact ⟨rfl, by simp [fitA]⟩
    · cases fid
      · by_cases hi1 : (1 : Int) ≤ i
        · go_wp2_with fail
          go_meet
          case rel => exact ⟨rfl, by simp [fitA, hi1]⟩
        · by_cases hi0 : i = 0
          · have ei0 : (i != 0) = false := by simp [hi0]
            have HI0 := Lib.hid hi0
            clear hi0
            cases fcode
            · by_cases hc0 : c = 0
              · have ec0 : (c != 0) = false := by simp [hc0]
                have HC0 := Lib.hid hc0
                clear hc0
                cases ftext
                · cases ht0 : (t == [])
                  · go_wp2_with fail
                    go_meet
                    case rel => exact ⟨rfl, by simp [fitA, HI0.out, HC0.out, ht0]⟩
                  · by_cases htl : t.length ≤ 65535
                    · have eli : ¬ (65535 : Int) < (t.length : Int) := by omega
                      cases fcodes
                      · by_cases hcn : cn = 0
                        · have ecn : ¬ (0 : Int) < (cn : Int) := by omega
                          have HCN := Lib.hid hcn
                          clear hcn
                          go_wp2_with fail
                          go_meet
                          case rel => exact ⟨rfl, by simp [fitA, HI0.out, HC0.out, ht0, htl, HCN.out]⟩
                        · have ecn : (0 : Int) < (cn : Int) := by omega
                          have HCN := Lib.hid hcn
                          clear hcn
                          go_wp2_with fail
                          go_meet
                          case rel => exact ⟨rfl, by simp [fitA, HI0.out, HC0.out, ht0, htl, HCN.out, Nat.pos_of_ne_zero HCN.out]⟩
                      · go_wp2_with fail
                        go_meet
                        case rel => exact ⟨rfl, by simp [fitA, HI0.out, HC0.out, ht0, htl]⟩
                    · have eli : (65535 : Int) < (t.length : Int) := by omega
                      go_wp2_with fail
                      go_meet
                      case rel => exact ⟨rfl, by simp [fitA, HI0.out, HC0.out, ht0, htl]⟩
                · by_cases htl : t.length ≤ 65535
                  · have eli : ¬ (65535 : Int) < (t.length : Int) := by omega
                    cases fcodes
                    · by_cases hcn : cn = 0
                      · have ecn : ¬ (0 : Int) < (cn : Int) := by omega
                        have HCN := Lib.hid hcn
                        clear hcn
                        go_wp2_with fail
                        go_meet
                        case rel => exact ⟨rfl, by simp [fitA, HI0.out, HC0.out, htl, HCN.out]⟩
                      · have ecn : (0 : Int) < (cn : Int) := by omega
                        have HCN := Lib.hid hcn
                        clear hcn
                        go_wp2_with fail
                        go_meet
                        case rel => exact ⟨rfl, by simp [fitA, HI0.out, HC0.out, htl, HCN.out, Nat.pos_of_ne_zero HCN.out]⟩
                    · go_wp2_with fail
                      go_meet
                      case rel => exact ⟨rfl, by simp [fitA, HI0.out, HC0.out, htl]⟩
                  · have eli : (65535 : Int) < (t.length : Int) := by omega
                    go_wp2_with fail
                    go_meet
                    case rel => exact ⟨rfl, by simp [fitA, HI0.out, HC0.out, htl]⟩
              · have ec0 : (c != 0) = true := by simpa using hc0
                have HC0 := Lib.hid hc0
                clear hc0
                go_wp2_with fail
                go_meet
                case rel => exact ⟨rfl, by simp [fitA, HI0.out, HC0.out]⟩
            · cases ftext
              · cases ht0 : (t == [])
                · go_wp2_with fail
                  go_meet
                  case rel => exact ⟨rfl, by simp [fitA, HI0.out, ht0]⟩
                · by_cases htl : t.length ≤ 65535
                  · have eli : ¬ (65535 : Int) < (t.length : Int) := by omega
                    cases fcodes
                    · by_cases hcn : cn = 0
                      · have ecn : ¬ (0 : Int) < (cn : Int) := by omega
                        have HCN := Lib.hid hcn
                        clear hcn
                        go_wp2_with fail
                        go_meet
                        case rel => exact ⟨rfl, by simp [fitA, HI0.out, ht0, htl, HCN.out]⟩
                      · have ecn : (0 : Int) < (cn : Int) := by omega
                        have HCN := Lib.hid hcn
                        clear hcn
                        go_wp2_with fail
                        go_meet
                        case rel => exact ⟨rfl, by simp [fitA, HI0.out, ht0, htl, HCN.out, Nat.pos_of_ne_zero HCN.out]⟩
                    · go_wp2_with fail
                      go_meet
                      case rel => exact ⟨rfl, by simp [fitA, HI0.out, ht0, htl]⟩
                  · have eli : (65535 : Int) < (t.length : Int) := by omega
                    go_wp2_with fail
                    go_meet
                    case rel => exact ⟨rfl, by simp [fitA, HI0.out, ht0, htl]⟩
              · by_cases htl : t.length ≤ 65535
                · have eli : ¬ (65535 : Int) < (t.length : Int) := by omega
                  cases fcodes
                  · by_cases hcn : cn = 0
                    · have ecn : ¬ (0 : Int) < (cn : Int) := by omega
                      have HCN := Lib.hid hcn
                      clear hcn
                      go_wp2_with fail
                      go_meet
                      case rel => exact ⟨rfl, by simp [fitA, HI0.out, htl, HCN.out]⟩
                    · have ecn : (0 : Int) < (cn : Int) := by omega
                      have HCN := Lib.hid hcn
                      clear hcn
                      go_wp2_with fail
                      go_meet
                      case rel => exact ⟨rfl, by simp [fitA, HI0.out, htl, HCN.out, Nat.pos_of_ne_zero HCN.out]⟩
                  · go_wp2_with fail
                    go_meet
                    case rel => exact ⟨rfl, by simp [fitA, HI0.out, htl]⟩
                · have eli : (65535 : Int) < (t.length : Int) := by omega
                  go_wp2_with fail
                  go_meet
                  case rel => exact ⟨rfl, by simp [fitA, HI0.out, htl]⟩
          · have ei0 : (i != 0) = true := by simpa using hi0
            have HI0 := Lib.hid hi0
            clear hi0
            go_wp2_with fail
            go_meet
            case rel => exact ⟨rfl, by simp [fitA, HI0.out]⟩
      · by_cases hi1 : (1 : Int) ≤ i
        · cases fcode
          · by_cases hc0 : c = 0
            · have ec0 : (c != 0) = false := by simp [hc0]
              have HC0 := Lib.hid hc0
              clear hc0
              cases ftext
              · cases ht0 : (t == [])
                · go_wp2_with fail
                  go_meet
                  case rel => exact ⟨rfl, by simp [fitA, hi1, HC0.out, ht0]⟩
                · by_cases htl : t.length ≤ 65535
                  · have eli : ¬ (65535 : Int) < (t.length : Int) := by omega
                    cases fcodes
                    · by_cases hcn : cn = 0
                      · have ecn : ¬ (0 : Int) < (cn : Int) := by omega
                        have HCN := Lib.hid hcn
                        clear hcn
                        go_wp2_with fail
                        go_meet
                        case rel => exact ⟨rfl, by simp [fitA, hi1, HC0.out, ht0, htl, HCN.out]⟩
                      · have ecn : (0 : Int) < (cn : Int) := by omega
                        have HCN := Lib.hid hcn
                        clear hcn
                        go_wp2_with fail
                        go_meet
                        case rel => exact ⟨rfl, by simp [fitA, hi1, HC0.out, ht0, htl, HCN.out, Nat.pos_of_ne_zero HCN.out]⟩
                    · go_wp2_with fail
                      go_meet
                      case rel => exact ⟨rfl, by simp [fitA, hi1, HC0.out, ht0, htl]⟩
                  · have eli : (65535 : Int) < (t.length : Int) := by omega
                    go_wp2_with fail
                    go_meet
                    case rel => exact ⟨rfl, by simp [fitA, hi1, HC0.out, ht0, htl]⟩
              · by_cases htl : t.length ≤ 65535
                · have eli : ¬ (65535 : Int) < (t.length : Int) := by omega
                  cases fcodes
                  · by_cases hcn : cn = 0
                    · have ecn : ¬ (0 : Int) < (cn : Int) := by omega
                      have HCN := Lib.hid hcn
                      clear hcn
                      go_wp2_with fail
                      go_meet
                      case rel => exact ⟨rfl, by simp [fitA, hi1, HC0.out, htl, HCN.out]⟩
                    · have ecn : (0 : Int) < (cn : Int) := by omega
                      have HCN := Lib.hid hcn
                      clear hcn
                      go_wp2_with fail
                      go_meet
                      case rel => exact ⟨rfl, by simp [fitA, hi1, HC0.out, htl, HCN.out, Nat.pos_of_ne_zero HCN.out]⟩
                  · go_wp2_with fail
                    go_meet
                    case rel => exact ⟨rfl, by simp [fitA, hi1, HC0.out, htl]⟩
                · have eli : (65535 : Int) < (t.length : Int) := by omega
                  go_wp2_with fail
                  go_meet
                  case rel => exact ⟨rfl, by simp [fitA, hi1, HC0.out, htl]⟩
            · have ec0 : (c != 0) = true := by simpa using hc0
              have HC0 := Lib.hid hc0
              clear hc0
              go_wp2_with fail
              go_meet
              case rel => exact ⟨rfl, by simp [fitA, hi1, HC0.out]⟩
          · cases ftext
            · cases ht0 : (t == [])
              · go_wp2_with fail
                go_meet
                case rel => exact ⟨rfl, by simp [fitA, hi1, ht0]⟩
              · by_cases htl : t.length ≤ 65535
                · have eli : ¬ (65535 : Int) < (t.length : Int) := by omega
                  cases fcodes
                  · by_cases hcn : cn = 0
                    · have ecn : ¬ (0 : Int) < (cn : Int) := by omega
                      have HCN := Lib.hid hcn
                      clear hcn
                      go_wp2_with fail
                      go_meet
                      case rel => exact ⟨rfl, by simp [fitA, hi1, ht0, htl, HCN.out]⟩
                    · have ecn : (0 : Int) < (cn : Int) := by omega
                      have HCN := Lib.hid hcn
                      clear hcn
                      go_wp2_with fail
                      go_meet
                      case rel => exact ⟨rfl, by simp [fitA, hi1, ht0, htl, HCN.out, Nat.pos_of_ne_zero HCN.out]⟩
                  · go_wp2_with fail
                    go_meet
                    case rel => exact ⟨rfl, by simp [fitA, hi1, ht0, htl]⟩
                · have eli : (65535 : Int) < (t.length : Int) := by omega
                  go_wp2_with fail
                  go_meet
                  case rel => exact ⟨rfl, by simp [fitA, hi1, ht0, htl]⟩
            · by_cases htl : t.length ≤ 65535
              · have eli : ¬ (65535 : Int) < (t.length : Int) := by omega
                cases fcodes
                · by_cases hcn : cn = 0
                  · have ecn : ¬ (0 : Int) < (cn : Int) := by omega
                    have HCN := Lib.hid hcn
                    clear hcn
                    go_wp2_with fail
                    go_meet
                    case rel => exact ⟨rfl, by simp [fitA, hi1, htl, HCN.out]⟩
                  · have ecn : (0 : Int) < (cn : Int) := by omega
                    have HCN := Lib.hid hcn
                    clear hcn
                    go_wp2_with fail
                    go_meet
                    case rel => exact ⟨rfl, by simp [fitA, hi1, htl, HCN.out, Nat.pos_of_ne_zero HCN.out]⟩
                · go_wp2_with fail
                  go_meet
                  case rel => exact ⟨rfl, by simp [fitA, hi1, htl]⟩
              · have eli : (65535 : Int) < (t.length : Int) := by omega
                go_wp2_with fail
                go_meet
                case rel => exact ⟨rfl, by simp [fitA, hi1, htl]⟩
        · go_wp2_with fail
          go_meet
          case rel => exact ⟨rfl, by simp [fitA, hi1]⟩
  case rest =>
    obtain ⟨rfl, rfl⟩ := hcut
    generalize hA : (ok && fitA ⟨fid, fcode, ftext, fbody, fcodes, least, most⟩ i c t cn) = oA at *
    have HA := Lib.hid hA
    clear hA
    cases oA
    · go_wp2_with fail
      go_ret
      exact ⟨by unfold fitsE; rw [HFL.out.1, HFL.out.2, HA.out]; rfl, HB3.out⟩
    · go_upto_region 4 with fail
      go_cut [96] from 68 to 96 (fun s96 wx => wx = wc ∧ s96 = .bool (!(fitB ⟨fid, fcode, ftext, fbody, fcodes, least, most⟩ k c n)))
      case first =>
        cases ek : (k == 10)
        · by_cases hle : (n : Int) < least
          · go_wp2_with fail
            go_meet
            case rel => exact ⟨rfl, by simp [fitB, ek, show ¬ least ≤ (n : Int) by omega]⟩
          · by_cases hmo : most < (n : Int)
            · go_wp2_with fail
              go_meet
              case rel => exact ⟨rfl, by simp [fitB, ek, show ¬ (n : Int) ≤ most by omega]⟩
            · go_wp2_with fail
              go_meet
              case rel => exact ⟨rfl, by simp [fitB, ek, show least ≤ (n : Int) by omega, show (n : Int) ≤ most by omega]⟩
        · by_cases hc1 : c < 1
          · go_wp2_with fail
            go_meet
            case rel => exact ⟨rfl, by simp [fitB, ek, show ¬ 1 ≤ c by omega]⟩
          · by_cases hc3 : 3 < c
            · go_wp2_with fail
              go_meet
              case rel => exact ⟨rfl, by simp [fitB, ek, show ¬ c ≤ 3 by omega]⟩
            · by_cases hle : (n : Int) < least
              · go_wp2_with fail
                go_meet
                case rel => exact ⟨rfl, by simp [fitB, ek, show 1 ≤ c by omega, show c ≤ 3 by omega, show ¬ least ≤ (n : Int) by omega]⟩
              · by_cases hmo : most < (n : Int)
                · go_wp2_with fail
                  go_meet
                  case rel => exact ⟨rfl, by simp [fitB, ek, show 1 ≤ c by omega, show c ≤ 3 by omega, show ¬ (n : Int) ≤ most by omega]⟩
                · go_wp2_with fail
                  go_meet
                  case rel => exact ⟨rfl, by simp [fitB, ek, show 1 ≤ c by omega, show c ≤ 3 by omega, show least ≤ (n : Int) by omega, show (n : Int) ≤ most by omega]⟩
      case rest =>
        obtain ⟨rfl, rfl⟩ := hcut
        generalize hBB : fitB ⟨fid, fcode, ftext, fbody, fcodes, least, most⟩ k c n = oB at *
        have HBB := Lib.hid hBB
        clear hBB
        cases oB
        · go_wp2_with fail
          go_ret
          exact ⟨by unfold fitsE; rw [HFL.out.1, HFL.out.2, HA.out, HBB.out]; rfl, HB3.out⟩
        · have hx := HX3.out
          have c4 := hx.cell 4 rfl; have c5 := hx.cell 5 rfl; have c6 := hx.cell 6 rfl; have c7 := hx.cell 7 rfl; have c8 := hx.cell 8 rfl
          clear hx
          have hF3 : FoAt S wc b.l bl bn bc := HF.out.same (fun x hx hlt => HB3.out.block x hlt) (fun _ hx _ => hx)
          have hS3 : ∀ x, S x → x < wc.heap.size := fun x hx => Nat.lt_of_lt_of_le (HS.out x hx) HB3.out.size
          cases fbody
          · have hC5 := sameG b.l .nil b.k b.i b.b 0 0 0 b.t [] bl none bn bc 0 0 S wc hF3 (FoAt.nil S wc) hS3
            have hvz : (headM b.k b.i b.b b.t bn 0 0 0 [] 0 && sameM b.l .nil) = zeroB b := by unfold zeroB; rw [HBN.out]
            rw [hvz] at hC5
            generalize hvd : zeroB b = vd at *
            have HVD := Lib.hid hvd
            have HC5 := Lib.hid hC5
            clear hF3 hS3 hvd hC5 hvz
            cases vd
            · go_wp2_with (go_at_call 46; (with_reducible refine HC5.out.mono ?_); rintro e9 w9 ⟨rfl, hB9⟩; have HB9 := Lib.hid hB9; clear hB9)
              go_ret
              refine ⟨?_, HB3.out.trans (HB9.out.mono HB3.out.size)⟩
              unfold fitsE
              rw [HFL.out.1, HFL.out.2, HA.out, HBB.out]
              simp [fitC, HVD.out]
            · go_wp2_with (go_at_call 46; (with_reducible refine HC5.out.mono ?_); rintro e9 w9 ⟨rfl, hB9⟩; have HB9 := Lib.hid hB9; clear hB9)
              go_ret
              refine ⟨?_, HB3.out.trans (HB9.out.mono HB3.out.size)⟩
              unfold fitsE
              rw [HFL.out.1, HFL.out.2, HA.out, HBB.out]
              simp [fitC, HVD.out]
          · have HC5 := Lib.hid (validN hF3 hS3)
            generalize hvd : validD b = vd at *
            have HVD := Lib.hid hvd
            clear hF3 hS3 hvd
            cases vd
            · go_wp2_with (go_at_call 105; (with_reducible refine HC5.out.mono ?_); rintro e9 w9 ⟨rfl, hB9⟩; have HB9 := Lib.hid hB9; have y39 := cellAt hB9 y3; clear hB9)
              go_ret
              refine ⟨?_, HB3.out.trans (HB9.out.mono HB3.out.size)⟩
              unfold fitsE
              rw [HFL.out.1, HFL.out.2, HA.out, HBB.out]
              simp [fitC, HVD.out]
            · go_wp2_with (go_at_call 105; (with_reducible refine HC5.out.mono ?_); rintro e9 w9 ⟨rfl, hB9⟩; have HB9 := Lib.hid hB9; have y39 := cellAt hB9 y3; clear hB9)
              go_ret
              refine ⟨?_, HB3.out.trans (HB9.out.mono HB3.out.size)⟩
              unfold fitsE
              rw [HFL.out.1, HFL.out.2, HA.out, HBB.out]
              simp [fitC, HVD.out]
end Go.Proofs.YtbldidiibkcelaaGreatDoor

/-
  value (walk): which error value an error is. Not a statement of the seat.
-/
namespace Go.Proofs.YtbldidiibkcelaaGreatDoor
open Go.RowKit

/-- an error's value: q its box, p what was made for it -/
def vErr (k c : Int) (t : Bs) (cl : Option Addr) (cn cc q p : Nat) : Value :=
  if k = 1 then .iface 101 (.agg #[.int .i64 c, .string ⟨t.toArray⟩]) else
  if k = 2 then .iface 89 (.pointer (some ⟨p, 0, none⟩)) else
  if k = 3 then .iface 102 (.pointer (some ⟨p, 0, none⟩)) else
  if k = 4 then .iface 103 (.pointer (some ⟨p, 0, none⟩)) else
  if k = 5 then .iface 106 (.agg #[.pointer (some ⟨q, 0, none⟩)]) else
  if k = 6 then .iface 107 (.slice cl cn cc) else
  if k = 7 then .iface 89 (.pointer none) else
  if k = 8 then .iface 108 (.pointer (some ⟨p, 0, none⟩)) else
  if k = 9 then .iface 109 (.pointer (some ⟨p, 0, none⟩)) else
  if k = 10 then .iface 110 (.agg #[.int .i64 c, .string ⟨t.toArray⟩]) else
  .nilIface
def isPt (k : Int) : Prop := k = 2 ∨ k = 3 ∨ k = 4 ∨ k = 8 ∨ k = 9
theorem ebox_size (w : World) (k i c : Int) (t : Bs) (b : Dt) (bl : Option Addr) (bn bc : Nat) (cl : Option Addr) (cn cc : Nat) (l : Option Addr) (n cap : Nat) : (ebox w k i c t b bl bn bc cl cn cc l n cap).heap.size = w.heap.size + 1 := by simp [ebox]
def EVP (k i c : Int) (t : Bs) (b : Dt) (bl : Option Addr) (bn bc : Nat) (cl : Option Addr) (cn cc : Nat) (l : Option Addr) (n cap : Nat) (w : World) (e : Ending) (w' : World) : Prop :=
  e = .returned (vErr k c t cl cn cc w.heap.size (w.heap.size + 1)) ∧ Below w.heap.size w w' ∧ Blk w' w.heap.size (V11 k i c t b bl bn bc cl cn cc l n cap) ∧ (isPt k → Blk w' (w.heap.size + 1) (V11 k i c t b bl bn bc cl cn cc l n cap))
set_option maxRecDepth 100000 in
set_option maxHeartbeats 8000000 in
theorem evalueN (k i c : Int) (t : Bs) (b : Dt) (bl : Option Addr) (bn bc : Nat) (cl : Option Addr) (cn cc : Nat) (l : Option Addr) (n cap : Nat) (w : World) :
    Calls Tryz.prog 50 #[vE k i c t b bl bn bc cl cn cc l n cap] w (EVP k i c t b bl bn bc cl cn cc l n cap w) := by
  have hA := ebox_blk w k i c t b bl bn bc cl cn cc l n cap
  have hBA := ebox_below w k i c t b bl bn bc cl cn cc l n cap
  have hz := ebox_size w k i c t b bl bn bc cl cn cc l n cap
  unfold vE
  go_enter Tryz.func50, Tryz.ntmps50
  go_upto_region 1 with (fail)
  change Code.wp _ _ _ _ (ebox w k i c t b bl bn bc cl cn cc l n cap)
  generalize ebox w k i c t b bl bn bc cl cn cc l n cap = w1 at *
  have c0 := hA.cell 0 rfl; have c1 := hA.cell 1 rfl; have c2 := hA.cell 2 rfl; have c3 := hA.cell 3 rfl; have c4 := hA.cell 4 rfl; have c5 := hA.cell 5 rfl; have c6 := hA.cell 6 rfl; have c7 := hA.cell 7 rfl; have c8 := hA.cell 8 rfl; have c9 := hA.cell 9 rfl; have c10 := hA.cell 10 rfl
  have HX := Lib.hid hA
  have HB := Lib.hid hBA
  have HZ := Lib.hid hz
  clear hA hBA hz
  by_cases h1 : k = 1
  · subst h1
    go_wp2_with fail
    go_ret
    exact ⟨rfl, HB.out, HX.out, fun h => by unfold isPt at h; omega⟩
  by_cases h2 : k = 2
  · subst h2
    go_wp2_with fail
    go_ret
    have hb := Blk.new w1 #[.int .i64 2, .int .i64 i, .int .i64 c, .string ⟨t.toArray⟩, .int .i64 b.k, .int .i64 b.i, .int .u64 b.b, .string ⟨b.t.toArray⟩, .slice bl bn bc, .slice cl cn cc, .slice l n cap] 119
    rw [HZ.out] at hb
    exact ⟨by rw [← HZ.out]; rfl, HB.out.alloc HB.out.size _, HX.out.alloc _, fun _ => hb⟩
  by_cases h3 : k = 3
  · subst h3
    go_wp2_with fail
    go_ret
    have hb := Blk.new w1 #[.int .i64 3, .int .i64 i, .int .i64 c, .string ⟨t.toArray⟩, .int .i64 b.k, .int .i64 b.i, .int .u64 b.b, .string ⟨b.t.toArray⟩, .slice bl bn bc, .slice cl cn cc, .slice l n cap] 120
    rw [HZ.out] at hb
    exact ⟨by rw [← HZ.out]; rfl, HB.out.alloc HB.out.size _, HX.out.alloc _, fun _ => hb⟩
  by_cases h4 : k = 4
  · subst h4
    go_wp2_with fail
    go_ret
    have hb := Blk.new w1 #[.int .i64 4, .int .i64 i, .int .i64 c, .string ⟨t.toArray⟩, .int .i64 b.k, .int .i64 b.i, .int .u64 b.b, .string ⟨b.t.toArray⟩, .slice bl bn bc, .slice cl cn cc, .slice l n cap] 121
    rw [HZ.out] at hb
    exact ⟨by rw [← HZ.out]; rfl, HB.out.alloc HB.out.size _, HX.out.alloc _, fun _ => hb⟩
  by_cases h5 : k = 5
  · subst h5
    go_wp2_with fail
    go_ret
    exact ⟨rfl, HB.out, HX.out, fun h => by unfold isPt at h; omega⟩
  by_cases h6 : k = 6
  · subst h6
    go_wp2_with fail
    go_ret
    exact ⟨rfl, HB.out, HX.out, fun h => by unfold isPt at h; omega⟩
  by_cases h7 : k = 7
  · subst h7
    go_wp2_with fail
    go_ret
    exact ⟨rfl, HB.out, HX.out, fun h => by unfold isPt at h; omega⟩
  by_cases h8 : k = 8
  · subst h8
    go_wp2_with fail
    go_ret
    have hb := Blk.new w1 #[.int .i64 8, .int .i64 i, .int .i64 c, .string ⟨t.toArray⟩, .int .i64 b.k, .int .i64 b.i, .int .u64 b.b, .string ⟨b.t.toArray⟩, .slice bl bn bc, .slice cl cn cc, .slice l n cap] 122
    rw [HZ.out] at hb
    exact ⟨by rw [← HZ.out]; rfl, HB.out.alloc HB.out.size _, HX.out.alloc _, fun _ => hb⟩
  by_cases h9 : k = 9
  · subst h9
    go_wp2_with fail
    go_ret
    have hb := Blk.new w1 #[.int .i64 9, .int .i64 i, .int .i64 c, .string ⟨t.toArray⟩, .int .i64 b.k, .int .i64 b.i, .int .u64 b.b, .string ⟨b.t.toArray⟩, .slice bl bn bc, .slice cl cn cc, .slice l n cap] 123
    rw [HZ.out] at hb
    exact ⟨by rw [← HZ.out]; rfl, HB.out.alloc HB.out.size _, HX.out.alloc _, fun _ => hb⟩
  by_cases h10 : k = 10
  · subst h10
    go_wp2_with fail
    go_ret
    exact ⟨rfl, HB.out, HX.out, fun h => by unfold isPt at h; omega⟩
  have HK := Lib.hid (And.intro h1 (And.intro h2 (And.intro h3 (And.intro h4 (And.intro h5 (And.intro h6 (And.intro h7 (And.intro h8 (And.intro h9 h10)))))))))
  have e1 : (k == 1) = false := by simpa using h1
  have e2 : (k == 2) = false := by simpa using h2
  have e3 : (k == 3) = false := by simpa using h3
  have e4 : (k == 4) = false := by simpa using h4
  have e5 : (k == 5) = false := by simpa using h5
  have e6 : (k == 6) = false := by simpa using h6
  have e7 : (k == 7) = false := by simpa using h7
  have e8 : (k == 8) = false := by simpa using h8
  have e9 : (k == 9) = false := by simpa using h9
  have e10 : (k == 10) = false := by simpa using h10
  clear h1 h2 h3 h4 h5 h6 h7 h8 h9 h10
  go_wp2_with fail
  go_ret
  obtain ⟨h1, h2, h3, h4, h5, h6, h7, h8, h9, h10⟩ := HK.out
  exact ⟨by simp [vErr, h1, h2, h3, h4, h5, h6, h7, h8, h9, h10], HB.out, HX.out, fun h => by unfold isPt at h; omega⟩
end Go.Proofs.YtbldidiibkcelaaGreatDoor

