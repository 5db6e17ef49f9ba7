/-
  The statement ErrsTells is proved: for every error the law returns true, and its argument reads as it did. Condition: the five listed package-level variables hold what the program's text lays (tied by the card).
-/
import Derived.Test.YtbldidiibkcelaaGreatDoorTETLaw
import Derived.Test.YtbldidiibkcelaaGreatDoorTELaidT
import Derived.Test.YtbldidiibkcelaaGreatDoorCards
import Derived.Test.YtbldidiibkcelaaGreatDoorTie
import Derived.SevenTiedAt
import Derived.LaidLaws
import Derived.LaidMore
import Derived.LaidHandle
import Derived.Lib.LaidTab
namespace Go.Proofs.YtbldidiibkcelaaGreatDoor.ETHolds
open Go.ChangeShapes Go.WideShapes Go.ChangeAt Go.RowKit
open Go.Proofs.YtbldidiibkcelaaGreatDoor

abbrev laidL : List (String × DataW Unit) := [("math/bits.deBruijn32tab", Rows.laid_math_bits_deBruijn32tab), ("math/bits.deBruijn64tab", Rows.laid_math_bits_deBruijn64tab), ("internal/strconv.uint64pow10", Rows.laid_internal_strconv_uint64pow10), ("errors.errorType", Rows.laid_errors_errorType), ("conduit/errs.errCompare", Rows.laid_conduit_errs_errCompare)]
abbrev dataL : List (String × DataW Unit) := [("math/bits.deBruijn32tab", Rows.laid_math_bits_deBruijn32tab), ("math/bits.deBruijn64tab", Rows.laid_math_bits_deBruijn64tab), ("internal/strconv.uint64pow10", Rows.laid_internal_strconv_uint64pow10), ("conduit/errs.errCompare", Rows.laid_conduit_errs_errCompare)]
theorem gT : Tryz.prog.globalNamed "errors.errorType" = some 1 := by kernel_rfl
theorem rt192 : (Tryz.prog.cutTypes.find? (·.1 == "internal/reflectlite.rtype")).map (·.2) = some 192 := by kernel_rfl
theorem oneRow68 : ((List.range Tryz.prog.types.size).filter fun t => Tryz.prog.rowNamed t [101, 114, 114, 111, 114]) = [68] := by kernel_rfl
theorem gT1 : Tryz.prog.globalNamed "math/bits.deBruijn64tab" = some 5 := by kernel_rfl
theorem gT2 : Tryz.prog.globalNamed "internal/strconv.uint64pow10" = some 3 := by kernel_rfl
theorem yT1 : (Tryz.prog.globals[5]?).map (·.type) = some 227 := by kernel_rfl
theorem yT2 : (Tryz.prog.globals[3]?).map (·.type) = some 220 := by kernel_rfl
theorem co5 : Tryz.prog.cellsOf 5 = 1 := by kernel_rfl
theorem co64 : Tryz.prog.cellsOf 22 = 1 := by kernel_rfl
theorem co220 : Tryz.prog.cellsOf 220 = 20 := by kernel_rfl
theorem co227 : Tryz.prog.cellsOf 227 = 64 := by kernel_rfl
def z64 : List Int := [0, 1, 56, 2, 57, 49, 28, 3, 61, 58, 42, 50, 38, 29, 17, 4, 62, 47, 59, 36, 45, 43, 51, 22, 53, 39, 33, 30, 24, 18, 12, 5, 63, 55, 48, 27, 60, 41, 37, 16, 46, 35, 44, 21, 52, 32, 23, 11, 54, 26, 40, 15, 34, 20, 31, 10, 25, 14, 19, 9, 13, 8, 7, 6]
theorem is64 : (Rows.laid_math_bits_deBruijn64tab : DataW Unit) = Lib.tabData .u8 z64 := by rfl
theorem isPow : (Rows.laid_internal_strconv_uint64pow10 : DataW Unit) = Lib.tabData .u64 Lib.pow10Tab := by rfl
set_option maxRecDepth 100000 in
theorem laid_of {W : World} (h : laidMetH Tryz.prog laidL W) : W.cell? ⟨1, 0, none⟩ = some (rty 68) ∧ Lb6 W := by
  have h' : laidMet Tryz.prog dataL W ∧ handlesMet Tryz.prog [("errors.errorType", Rows.laid_errors_errorType)] W := h
  obtain ⟨hm, hh⟩ := h'
  constructor
  · obtain ⟨name, u, ty, e1, e2, e3, e4, e5⟩ := hh _ (List.mem_singleton.2 rfl)
    have en : name = [101, 114, 114, 111, 114] := (Option.some.inj e1).symm
    subst en
    obtain rfl := Option.some.inj (rt192.symm.trans e2)
    have hm : ty ∈ (List.range Tryz.prog.types.size).filter fun t => Tryz.prog.rowNamed t [101, 114, 114, 111, 114] := List.mem_filter.2 ⟨List.mem_range.2 e3, e4⟩
    rw [oneRow68] at hm
    obtain rfl := List.mem_singleton.1 hm
    have hh : typeHandle Tryz.prog 68 = .pointer (some ⟨7, 68, none⟩) := by kernel_rfl
    rw [hh] at e5
    simpa using World.var?_cell gT e5 0
  · obtain ⟨ps, ⟨g0, t0, cs0, f0, p0, q0, hg0, ht0, hv0, hd0, hl1, e0⟩, _, _⟩ := hm
    obtain ⟨g1, t1, cs1, f1, p1, q1, hg1, ht1, hv1, hd1, hl2, e1⟩ := hl1
    obtain ⟨g2, t2, cs2, f2, p2, q2, hg2, ht2, hv2, hd2, hl3, e2⟩ := hl2
    obtain rfl := Option.some.inj (gT1.symm.trans hg1)
    obtain rfl := Option.some.inj (gT2.symm.trans hg2)
    obtain rfl := Option.some.inj (yT1.symm.trans ht1)
    obtain rfl := Option.some.inj (yT2.symm.trans ht2)
    have hp : Lib.TabIs Tryz.prog W "internal/strconv.uint64pow10" .u64 Lib.pow10Tab := by
      unfold Lib.TabIs
      rw [isPow] at hd2
      rw [hv2, ← Lib.cells_of_tab Tryz.underlying220 Tryz.underlying22 co64 co220 hd2]
    have hz : Lib.TabIs Tryz.prog W "math/bits.deBruijn64tab" .u8 z64 := by
      unfold Lib.TabIs
      rw [is64] at hd1
      rw [hv1, ← Lib.cells_of_tab Tryz.underlying227 Tryz.underlying5 co5 co227 hd1]
    exact ⟨hp, hz.cell gT1 15 (by decide)⟩
theorem door_met (os : Os) (args : Array Value) : laidMetH Tryz.prog laidL ((World.doorLaid Tryz.prog 400 os).forCall (fun _ _ => 0) ⟨#[], args, []⟩).memory :=
  laidMetH_of_parts3 (fuel := 8) (laidMet_of_run' 8 (by kernel_rfl) (by kernel_rfl)) (by kernel_rfl) (by kernel_rfl)
theorem ownK : ownKnob Tryz.prog.godebug = none := by kernel_rfl
theorem laidOutK : laidOutB Tryz.prog = true := by kernel_rfl
set_option maxRecDepth 100000 in
theorem errsTells_lifted (os : Os) (started : os.Started) (H : Type) (enc : TypeId × Value → H) :
    ReturnsInHanded {} Tryz.checked os 7 .any (fun w args => (Rows.errsTellsSpec.pre enc Tryz.prog Tryz.f7 [] false w args ∧ laidMetH Tryz.prog laidL w) ∧ sizedMet enc Tryz.prog Tryz.f7 (OpenSpec.ofChange Rows.errsTellsSpec) false w args)
      (Rows.errsTellsSpec.post enc Tryz.prog Tryz.f7 false true false false) := by
  refine returnsInHanded_of_change_and (C := Tryz.checked) (X := fun w _ => laidMetH Tryz.prog laidL w) (fun _ _ _ hh h => h.of_heap hh) ownK started (by kernel_rfl) Tryz.func7
    (ChangeSpec.witness_shaped (enc := enc) (C := Tryz.checked) (os := os) (X := fun w _ => laidMetH Tryz.prog laidL w) false (World.doorLaid Tryz.prog 400 os)
      #[.agg #[.int .i64 0, .int .i64 0, .int .i64 0, .string ByteArray.empty, .int .i64 0, .int .i64 0, .int .u64 0, .string ByteArray.empty, .slice none 0 0, .slice none 0 0, .slice none 0 0]] 8 rfl (World.shaped_of_RefB (by kernel_rfl) (by kernel_rfl)) (by kernel_rfl) (by kernel_rfl) (by kernel_rfl) (door_met os _)) ?_
  intro W base args ds gs before hval0 hW _ hsz hL _
  have hval : ∀ (j : Nat) t v, Tryz.f7.params[j]? = some t → args[j]? = some v → Value.okWide Tryz.prog W .any base t v := hval0
  have hW' := hW
  obtain ⟨p, q, hA0, hV, rfl, hfz, hnd⟩ := hW
  have hA : DataW.TrodAll enc Tryz.prog W 0 (fun _ => true) true Tryz.f7.params.toList args.toList ds p := hA0
  have hsz1 : (DataW.weightsEach Tryz.prog (Tryz.f7.params.toList ++ Rows.errsTellsSpec.plain.varTypes Tryz.prog) (ds ++ gs)).all (· ≤ reachBytes) = true := hsz
  rw [Tryz.params7] at hA hval hsz1
  obtain ⟨v0, d0, rfl, rfl, h0⟩ := trodAll_one hA
  obtain ⟨rfl, rfl⟩ := trodVars_none hV
  have hR : inReach 29 d0 := by
    unfold inReach
    simp only [List.cons_append, List.nil_append, DataW.weightsEach, List.all_append, Bool.and_eq_true] at hsz1
    exact hsz1.1
  have k0 := h0
  have lt0 : ∀ x ∈ p, x.block < W.heap.size := by obtain ⟨m, hm⟩ := k0; exact DataW.trod_lt m _ _ _ hm
  obtain ⟨cs0, rfl, hsz0⟩ := okWide_struct Tryz.underlying29 (hval 0 29 v0 rfl rfl)
  have hO : ∃ (e : Et) (bl : Option Addr) (bn bc : Nat) (cl : Option Addr) (cn cc : Nat) (l : Option Addr) (n cap : Nat), Value.agg cs0 = vE e.k e.i e.c e.t e.b bl bn bc cl cn cc l n cap ∧
      ErAt (fun b => b < W.heap.size) W e bl bn bc cl cn cc l n cap ∧ e.cs.length ≤ 140737488355328 ∧ e.l.small ∧ erng1 e := by
    obtain ⟨fuel, hf⟩ := h0
    exact open_errT hsz0 hf hR
  obtain ⟨e, bl, bn, bc, cl, cn, cc, l, n, cap, hv, hE, hcs, hks, hrg⟩ := hO
  obtain ⟨hG, hLb⟩ := laid_of hL
  clear hA0 hval0
  rw [hv] at hW' k0 ⊢
  refine (errsTellsT hE (fun _ hx => hx) hcs hks hrg hG hLb).mono fun r W' ⟨he, bel⟩ => ?_
  subst he
  exact ⟨_, rfl, _, _, _, [], _, [], hW', trodAll_mk1 (shut_bool Tryz.underlying4 _), trodAll_mk1 (Below.trod laidOutK (by kernel_rfl) (of_decide_eq_true (by kernel_rfl)) k0 bel lt0), rfl, bel.frame _, fun h => by cases h⟩
theorem errsTells_row : Rows.ErrsTellsSaid :=
  OpenClaim.holds_of_wide 7 Tryz.f7 rfl rfl rfl rfl rfl rfl rfl ⟨rfl, rfl, rfl, rfl, rfl⟩ rfl rfl rfl rfl rfl (by kernel_rfl) Tryz.func7 (by kernel_rfl)
    (of_decide_eq_true (by kernel_rfl)) (by unfold Func.isWrapper; first | (rw [if_pos (by decide +kernel)]; kernel_rfl) | (rw [if_neg (by decide +kernel)]; exact ⟨rfl, rfl⟩))
    (fun os started H enc _ => errsTells_lifted os started H enc)
theorem errsTells_holds : Rows.ErrsTellsCardSaid :=
  Claim7.holds_tied_plain_at .later [] [.data, .data, .data, .handle, .sentinel] true (true, "4da6dd07b35e7d82970102e670fc68711a67e3c8a46fc815a9af7e09d11ffd05") true
    errsTells_row (fun _ h => by cases h) (by kernel_rfl) (fun _ h => by cases h) errsTells_row_tie rfl ⟨rfl, rfl⟩ (by kernel_rfl) rfl
    (fun f fn hf hfn => by
      obtain rfl : f = 7 := Option.some.inj ((show Tryz.prog.funcNamed "conduit/conduitlaw35.ErrsTells" = some 7 by kernel_rfl).symm.trans hf) |>.symm
      obtain rfl : fn = Tryz.f7 := (Option.some.inj (Tryz.func7.symm.trans hfn)).symm
      exact ⟨by kernel_rfl, fun j t ht => by
        rw [Tryz.params7] at ht
        have hmem : t = 29 := by
          rcases j with _ | j
          · simpa using ht.symm
          · simp at ht
        subst hmem
        exact (show Tryz.prog.wantsStandIn 29 = false by kernel_rfl)⟩)
    (by kernel_rfl)
#print axioms errsTells_holds
end Go.Proofs.YtbldidiibkcelaaGreatDoor.ETHolds

