/-
  From the reading of an argument, and of the listed variables, to the words of the walks. Not a statement of the seat.
-/
import Derived.Test.YtofpdhkdnbnobaaGreatDoorHas
import Derived.ProofKit
import Derived.OpenShut
import Derived.ChangeOld
import Derived.Test.YtofpdhkdnbnobaaGreatDoorRows
import Derived.ChangeSame
import Derived.ChangeVars
import Derived.JoinedOf
import Derived.RowKit
import Derived.RowKitTokens
import Derived.LaidLaws
import Derived.LaidMore
import Derived.LaidHandle
import Derived.Stop.Joined
import Derived.Lib.LaidTab
namespace Go.Proofs.YtofpdhkdnbnobaaGreatDoor
open Go.RowKit Go.ChangeShapes Go.WideShapes Go.ChangeAt

theorem gT0 : Tryz.prog.globalNamed "math/bits.deBruijn32tab" = some 5 := by kernel_rfl
theorem gT1 : Tryz.prog.globalNamed "math/bits.deBruijn64tab" = some 6 := by kernel_rfl
theorem gT2 : Tryz.prog.globalNamed "internal/strconv.uint64pow10" = some 3 := by kernel_rfl
theorem gT3 : Tryz.prog.globalNamed "strconv.ErrRange" = some 2 := by kernel_rfl
theorem gT4 : Tryz.prog.globalNamed "strconv.ErrSyntax" = some 1 := by kernel_rfl
theorem yT1 : (Tryz.prog.globals[6]?).map (·.type) = some 153 := by kernel_rfl
theorem yT2 : (Tryz.prog.globals[3]?).map (·.type) = some 143 := by kernel_rfl
theorem yT3 : (Tryz.prog.globals[2]?).map (·.type) = some 92 := by kernel_rfl
theorem yT4 : (Tryz.prog.globals[1]?).map (·.type) = some 92 := by kernel_rfl
theorem co3 : Tryz.prog.cellsOf 3 = 1 := by kernel_rfl
theorem co2 : Tryz.prog.cellsOf 2 = 1 := by kernel_rfl
theorem co5 : Tryz.prog.cellsOf 5 = 1 := by kernel_rfl
theorem co9 : Tryz.prog.cellsOf 9 = 1 := by kernel_rfl
theorem co22 : Tryz.prog.cellsOf 26 = 1 := by kernel_rfl
theorem co23 : Tryz.prog.cellsOf 27 = 1 := by kernel_rfl
theorem co25 : Tryz.prog.cellsOf 29 = 5 := by kernel_rfl
theorem co157 : Tryz.prog.cellsOf 143 = 20 := by kernel_rfl
theorem co170 : Tryz.prog.cellsOf 153 = 64 := by kernel_rfl
def z64 : List Int := [0, 1, 56, 2, 57, 49, 28, 3, 61, 58, 42, 50, 38, 29, 17, 4, 62, 47, 59, 36, 45, 43, 51, 22, 53, 39, 33, 30, 24, 18, 12, 5, 63, 55, 48, 27, 60, 41, 37, 16, 46, 35, 44, 21, 52, 32, 23, 11, 54, 26, 40, 15, 34, 20, 31, 10, 25, 14, 19, 9, 13, 8, 7, 6]

abbrev laidL : List (String × DataW Unit) := [("math/bits.deBruijn32tab", Rows.laid_math_bits_deBruijn32tab), ("math/bits.deBruijn64tab", Rows.laid_math_bits_deBruijn64tab), ("internal/strconv.uint64pow10", Rows.laid_internal_strconv_uint64pow10), ("strconv.ErrRange", Rows.laid_strconv_ErrRange), ("strconv.ErrSyntax", Rows.laid_strconv_ErrSyntax)]
theorem is64 : (Rows.laid_math_bits_deBruijn64tab : DataW Unit) = Lib.tabData .u8 z64 := by rfl
theorem isPow : (Rows.laid_internal_strconv_uint64pow10 : DataW Unit) = Lib.tabData .u64 Lib.pow10Tab := by rfl

set_option maxRecDepth 100000 in
theorem laid_of {W : World} (h : laidMetH Tryz.prog laidL W) : Lb W := by
  have hm : laidMet Tryz.prog laidL W := h
  obtain ⟨ps, ⟨g0, t0, cs0, f0, p0, q0, hg0, ht0, hv0, hd0, hl1, e0⟩, _, _⟩ := hm
  obtain ⟨g1, t1, cs1, f1, p1, q1, hg1, ht1, hv1, hd1, hl2, e1⟩ := hl1
  obtain ⟨g2, t2, cs2, f2, p2, q2, hg2, ht2, hv2, hd2, hl3, e2⟩ := hl2
  obtain ⟨g3, t3, cs3, f3, p3, q3, hg3, ht3, hv3, hd3, hl4, e3⟩ := hl3
  obtain ⟨g4, t4, cs4, f4, p4, q4, hg4, ht4, hv4, hd4, _, e4⟩ := hl4
  obtain rfl := Option.some.inj (gT1.symm.trans hg1)
  obtain rfl := Option.some.inj (gT2.symm.trans hg2)
  obtain rfl := Option.some.inj (gT3.symm.trans hg3)
  obtain rfl := Option.some.inj (gT4.symm.trans hg4)
  obtain rfl := Option.some.inj (yT1.symm.trans ht1)
  obtain rfl := Option.some.inj (yT2.symm.trans ht2)
  obtain rfl := Option.some.inj (yT3.symm.trans ht3)
  obtain rfl := Option.some.inj (yT4.symm.trans ht4)
  have hp : Lib.TabIs Tryz.prog W "internal/strconv.uint64pow10" .u64 Lib.pow10Tab := by
    unfold Lib.TabIs
    rw [isPow] at hd2
    rw [hv2, ← Lib.cells_of_tab Tryz.underlying143 Tryz.underlying26 co22 co157 hd2]
  have hz : Lib.TabIs Tryz.prog W "math/bits.deBruijn64tab" .u8 z64 := by
    unfold Lib.TabIs
    rw [is64] at hd1
    rw [hv1, ← Lib.cells_of_tab Tryz.underlying153 Tryz.underlying5 co5 co170 hd1]
  have hc := hz.cell gT1 15 (by decide)
  refine ⟨World.block_lt_of_cell? W ⟨6, 15, none⟩ hc, hp, ?_, ?_, ?_⟩
  · obtain ⟨_, u, v, e, _⟩ := iface_of_trod Tryz.underlying92 hd4
    obtain ⟨l9⟩ := cs4
    have e' : l9 = [.iface u v] := e
    subst e'
    exact ⟨u, v, by simpa using World.var?_cell gT4 hv4 0⟩
  · obtain ⟨_, u, v, e, _⟩ := iface_of_trod Tryz.underlying92 hd3
    obtain ⟨l9⟩ := cs3
    have e' : l9 = [.iface u v] := e
    subst e'
    exact ⟨u, v, by simpa using World.var?_cell gT3 hv3 0⟩
  · exact hc
theorem door_met (os : Os) (args : Array Value) : laidMetH Tryz.prog laidL ((World.doorLaid Tryz.prog 400 os).forCall (fun _ _ => 0) ⟨#[], args, []⟩).memory :=
  laidMet_of_run' 8 (by kernel_rfl) (by kernel_rfl)
theorem ownK : ownKnob Tryz.prog.godebug = none := by kernel_rfl
theorem laidOutK : laidOutB Tryz.prog = true := by kernel_rfl

end Go.Proofs.YtofpdhkdnbnobaaGreatDoor
