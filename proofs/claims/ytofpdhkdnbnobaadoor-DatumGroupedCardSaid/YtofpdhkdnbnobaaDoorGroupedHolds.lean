/-
  The statement DatumGrouped is proved: for every row of values the law returns true, and its argument reads as it did. Condition: the listed package-level variables hold what the program's text lays (tied by the card).
-/
import Derived.Test.YtofpdhkdnbnobaaDoorGroupedW
import Derived.Test.YtofpdhkdnbnobaaDoorLaidD
import Derived.Test.YtofpdhkdnbnobaaDoorCards
import Derived.Test.YtofpdhkdnbnobaaDoorTie
import Derived.SevenTiedAt
namespace Go.Proofs.YtofpdhkdnbnobaaDoor.GroupedHolds
open Go.ChangeShapes Go.WideShapes Go.ChangeAt Go.RowKit
open Go.Proofs.YtofpdhkdnbnobaaDoor

set_option maxRecDepth 100000 in
theorem open_list {H : Type} {enc : TypeId × Value → H} {W : World} {v : Value} {fuel : Nat} {y : DataW H × List MemPlace} (h : DataW.trod enc Tryd.prog W 0 (fun _ => true) true fuel 23 [v] = some y) :
    ∃ (l : Option Addr) (n c : Nat) (f : Fo), v = .slice l n c ∧ FoAt (fun b => b < W.heap.size) W f l n c := by
  obtain ⟨a, len, cap, l, e, hr, hq⟩ := open_rows (c := v) El.cells (ElOK W) 5 (fun _ => rfl) (by omega) Tryd.underlying23 co25 (fun n' cs' y' _ h' => open_el n' h') h
  exact ⟨a, len, cap, foOf l, e, _, ⟨hr, hr.ltb⟩, At_of l hq⟩

set_option maxRecDepth 100000 in
theorem datumGrouped_lifted (os : Os) (started : os.Started) (H : Type) (enc : TypeId × Value → H) :
    ReturnsInHanded {} Tryd.checked os 11 .any (fun w args => (Rows.datumGroupedSpec.pre enc Tryd.prog Tryd.f11 [] false w args ∧ laidMetH Tryd.prog laidL w) ∧ sizedMet enc Tryd.prog Tryd.f11 (OpenSpec.ofChange Rows.datumGroupedSpec) false w args)
      (Rows.datumGroupedSpec.post enc Tryd.prog Tryd.f11 false true false false) := by
  refine returnsInHanded_of_change_and (C := Tryd.checked) (X := fun w _ => laidMetH Tryd.prog laidL w) (fun _ _ _ hh h => h.of_heap hh) ownK started (by kernel_rfl) Tryd.func11
    (ChangeSpec.witness_shaped (enc := enc) (C := Tryd.checked) (os := os) (X := fun w _ => laidMetH Tryd.prog laidL w) false (World.doorLaid Tryd.prog 400 os)
      #[.slice none 0 0] 8 rfl (World.shaped_of_RefB (by kernel_rfl) (by kernel_rfl)) (by kernel_rfl) (by kernel_rfl) (by kernel_rfl) (door_met os _)) ?_
  intro W base args ds gs before hval0 hW _ _ hL _
  have hval : ∀ (j : Nat) t v, Tryd.f11.params[j]? = some t → args[j]? = some v → Value.okWide Tryd.prog W .any base t v := hval0
  have hW' := hW
  obtain ⟨p, q, hA0, hV, rfl, hfz, hnd⟩ := hW
  have hA : DataW.TrodAll enc Tryd.prog W 0 (fun _ => true) true Tryd.f11.params.toList args.toList ds p := hA0
  rw [Tryd.params11] at hA hval
  obtain ⟨v0, d0, rfl, rfl, h0⟩ := trodAll_one hA
  obtain ⟨rfl, rfl⟩ := trodVars_none hV
  have k0 := h0
  have lt0 : ∀ x ∈ p, x.block < W.heap.size := by obtain ⟨m, hm⟩ := k0; exact DataW.trod_lt m _ _ _ hm
  obtain ⟨a0, l0, c0, rfl⟩ := okWide_slice Tryd.underlying23 (hval 0 23 v0 rfl rfl)
  obtain ⟨la, na, ca, fa, hcs, hFa⟩ : ∃ (l : Option Addr) (n c : Nat) (f : Fo), Value.slice a0 l0 c0 = .slice l n c ∧ FoAt (fun b => b < W.heap.size) W f l n c := by
    obtain ⟨fuel, hf⟩ := h0
    exact open_list hf
  rw [hcs] at hW' k0 ⊢
  have hLd := laid_of hL
  clear hA0 hval0
  refine (groupedT hFa (fun _ hx => hx) hLd).mono fun e W' ⟨he, bel⟩ => ?_
  subst he
  exact ⟨_, rfl, _, _, _, [], _, [], hW', trodAll_mk1 (shut_bool Tryd.underlying4 _), trodAll_mk1 (Below.trod laidOutK (by kernel_rfl) (of_decide_eq_true (by kernel_rfl)) k0 bel lt0), rfl, bel.frame _, fun h => by cases h⟩

theorem datumGrouped_row : Rows.DatumGroupedSaid :=
  OpenClaim.holds_of_wide 11 Tryd.f11 rfl rfl rfl rfl rfl rfl rfl ⟨rfl, rfl, rfl, rfl, rfl⟩ rfl rfl rfl rfl rfl (by kernel_rfl) Tryd.func11 (by kernel_rfl)
    (of_decide_eq_true (by kernel_rfl)) (by unfold Func.isWrapper; first | (rw [if_pos (by decide +kernel)]; kernel_rfl) | (rw [if_neg (by decide +kernel)]; exact ⟨rfl, rfl⟩))
    (fun os started H enc _ => datumGrouped_lifted os started H enc)
theorem datumGrouped_holds : Rows.DatumGroupedCardSaid :=
  Claim7.holds_tied_plain_at .later [] [.data, .data, .data, .sentinel, .sentinel] true (true, "1923507b371831864af719c430bdea72b0f2ca599107aafeb1228c24a7600d91") true
    datumGrouped_row (fun _ h => by cases h) (by kernel_rfl) (fun _ h => by cases h) datumGrouped_row_tie rfl ⟨rfl, rfl⟩ (by kernel_rfl) rfl
    (fun f fn hf hfn => by
      obtain rfl : f = 11 := Option.some.inj ((show Tryd.prog.funcNamed "conduit/conduitlaw01.DatumGrouped" = some 11 by kernel_rfl).symm.trans hf) |>.symm
      obtain rfl : fn = Tryd.f11 := (Option.some.inj (Tryd.func11.symm.trans hfn)).symm
      exact ⟨by kernel_rfl, fun j t ht => by
        rw [Tryd.params11] at ht
        have hmem : t = 23 := by
          rcases j with _ | j
          · simpa using ht.symm
          · simp at ht
        subst hmem
        exact (show Tryd.prog.wantsStandIn 23 = false by kernel_rfl)⟩)
    (by kernel_rfl)
#print axioms datumGrouped_holds
end Go.Proofs.YtofpdhkdnbnobaaDoor.GroupedHolds
