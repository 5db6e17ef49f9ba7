/-
  The statement PipeHides is proved: for every source, sink and size the law returns true, and its arguments read as they did. Condition: the two package-level variables hold what the program's text lays (tied by the card).
-/
import Derived.Test.YtigfgdefgnahpaaDoorHides
import Derived.Test.YtigfgdefgnahpaaDoorLaidM
import Derived.Test.YtigfgdefgnahpaaDoorCards
import Derived.Test.YtigfgdefgnahpaaDoorTie
import Derived.SevenTiedAt
import Derived.Carry
namespace Go.Proofs.YtigfgdefgnahpaaDoor.HidesHolds
open Go.ChangeShapes Go.WideShapes Go.ChangeAt Go.RowKit
open Go.Proofs.YtigfgdefgnahpaaDoor

set_option maxRecDepth 100000 in
theorem hides_lifted (os : Os) (started : os.Started) (H : Type) (enc : TypeId × Value → H) :
    ReturnsInHanded {} Tryd.checked os 7 .any (fun w args => (Rows.pipeHidesSpec.pre enc Tryd.prog Tryd.f7 [] false w args ∧ laidMetH Tryd.prog laidL w) ∧ sizedMet enc Tryd.prog Tryd.f7 (OpenSpec.ofChange Rows.pipeHidesSpec) false w args)
      (Rows.pipeHidesSpec.post enc Tryd.prog Tryd.f7 false true false false) := by
  refine returnsInHanded_of_change_and (C := Tryd.checked) (X := fun w _ => laidMetH Tryd.prog laidL w) (fun _ _ _ hh h => h.of_heap hh) ownK started (by kernel_rfl) Tryd.func7
    (ChangeSpec.witness_shaped (enc := enc) (C := Tryd.checked) (os := os) (X := fun w _ => laidMetH Tryd.prog laidL w) false (World.doorLaid Tryd.prog 400 os)
      #[.agg #[.string ByteArray.empty, .slice none 0 0, .bool false, .bool false, .bool false, .slice none 0 0], .agg #[.slice none 0 0, .int .i64 0, .bool false, .bool false, .int .i64 0, .slice none 0 0], .int .i64 0] 8 rfl (World.shaped_of_RefB (by kernel_rfl) (by kernel_rfl)) (by kernel_rfl) (by kernel_rfl) (by kernel_rfl) (door_met os _)) ?_
  intro W base args ds gs before hval0 hW _ _ hL _
  have hval : ∀ (j : Nat) t v, Tryd.f7.params[j]? = some t → args[j]? = some v → Value.okWide Tryd.prog W .any base t v := hval0
  have hW' := hW
  obtain ⟨p, q, hA0, hV, rfl, hfz, hnd⟩ := hW
  have hA : DataW.TrodAll enc Tryd.prog W 0 (fun _ => true) true Tryd.f7.params.toList args.toList ds p := hA0
  rw [Tryd.params7] at hA hval
  obtain ⟨v0, v1, v2, d0, d1, d2, p0, p1, p2, rfl, rfl, rfl, h0, h1, h2⟩ := trodAll_three hA
  obtain ⟨rfl, rfl⟩ := trodVars_none hV
  have k0 := h0
  have k1 := h1
  have lt0 : ∀ x ∈ p0, x.block < W.heap.size := by obtain ⟨m, hm⟩ := k0; exact DataW.trod_lt m _ _ _ hm
  have lt1 : ∀ x ∈ p1, x.block < W.heap.size := by obtain ⟨m, hm⟩ := k1; exact DataW.trod_lt m _ _ _ hm
  obtain ⟨cs, rfl, hsz⟩ := okWide_struct Tryd.underlying25 (hval 0 25 v0 rfl rfl)
  obtain ⟨ct, rfl, hst⟩ := okWide_struct Tryd.underlying29 (hval 1 29 v1 rfl rfl)
  obtain ⟨dat, sa, sn, sc, early, broken, wr, pa, pn, pc, zs, ps, rfl, hz, hp, hpo⟩ : ∃ dat sa sn sc early broken wr pa pn pc zs ps, cs = #[.string dat, .slice sa sn sc, .bool early, .bool broken, .bool wr, .slice pa pn pc] ∧ RdK W free none 1 sa sn sc (I3 zs) ∧ Pipes W free pa pn pc ps ∧ ∀ p ∈ ps, PpOK W p := by
    obtain ⟨fuel, hf⟩ := h0
    exact open_source hsz hf
  obtain ⟨ta, tn, tc, room, over, rd, bk, qa, qn, qc, tzs, qs, rfl, ht, hq, _⟩ : ∃ ta tn tc room over rd bk qa qn qc tzs qs, ct = #[.slice ta tn tc, .int .i64 room, .bool over, .bool rd, .int .i64 bk, .slice qa qn qc] ∧ RdK W free none 1 ta tn tc (I3 tzs) ∧ Pipes W free qa qn qc qs ∧ ∀ p ∈ qs, PpOK W p := by
    obtain ⟨fuel, hf⟩ := h1
    exact open_sink hst hf
  obtain ⟨n, rfl, rfl, rfl, w2⟩ := open_int Tryd.underlying3 (hval 2 3 v2 rfl rfl) h2
  obtain ⟨eb, hLd⟩ := laid_of hL
  clear hA0 hval0
  refine (hidesT (A := ⟨dat, sa, sn, sc, early, broken, wr, pa, pn, pc, ta, tn, tc, room, over, rd, bk, qa, qn, qc⟩) (n := n) ⟨hz, hp, ht, hq⟩ hLd (fun x hx => (hpo x hx).1) (fun x hx => (hpo x hx).2.1)).mono fun e W' ⟨he, bel⟩ => ?_
  subst he
  exact ⟨_, rfl, _, _, _, [], _, [], hW', trodAll_mk1 (shut_bool Tryd.underlying4 _), trodAll_mk3 (Below.trod laidOutK (by kernel_rfl) (of_decide_eq_true (by kernel_rfl)) k0 bel lt0) (Below.trod laidOutK (by kernel_rfl) (of_decide_eq_true (by kernel_rfl)) k1 bel lt1) (shut_int Tryd.underlying3 w2), rfl, bel.frame _, fun h => by cases h⟩

theorem pipeHides_row : Rows.PipeHidesSaid :=
  OpenClaim.holds_of_wide 7 Tryd.f7 rfl rfl rfl rfl rfl rfl rfl ⟨rfl, rfl, rfl, rfl, rfl⟩ rfl rfl rfl rfl rfl (by kernel_rfl) Tryd.func7 (by kernel_rfl)
    (of_decide_eq_true (by kernel_rfl)) (by unfold Func.isWrapper; first | (rw [if_pos (by decide +kernel)]; kernel_rfl) | (rw [if_neg (by decide +kernel)]; exact ⟨rfl, rfl⟩))
    (fun os started H enc _ => hides_lifted os started H enc)
theorem pipeHides_holds : Rows.PipeHidesCardSaid :=
  Claim7.holds_tied_plain_at .later [] [.handle, .sentinel] true (true, "ba51c22b402af90721a96615aefbaf83029e5c4ccb04267628ac41d826fc7b68") true
    pipeHides_row (fun _ h => by cases h) (by kernel_rfl) (fun _ h => by cases h) pipeHides_row_tie rfl ⟨rfl, rfl⟩ (by kernel_rfl) rfl
    (fun f fn hf hfn => by
      obtain rfl : f = 7 := Option.some.inj ((show Tryd.prog.funcNamed "conduit/conduitlaw36.PipeHides" = some 7 by kernel_rfl).symm.trans hf) |>.symm
      obtain rfl : fn = Tryd.f7 := (Option.some.inj (Tryd.func7.symm.trans hfn)).symm
      exact ⟨by kernel_rfl, fun j t ht => by
        rw [Tryd.params7] at ht
        have hmem : t = 25 ∨ t = 29 ∨ t = 3 := by
          rcases j with _ | _ | _ | j
          · exact (.inl (by simpa using ht.symm))
          · exact (.inr (.inl (by simpa using ht.symm)))
          · exact (.inr (.inr (by simpa using ht.symm)))
          · simp at ht
        rcases hmem with rfl | rfl | rfl
        · exact (show Tryd.prog.wantsStandIn 25 = false by kernel_rfl)
        · exact (show Tryd.prog.wantsStandIn 29 = false by kernel_rfl)
        · exact (show Tryd.prog.wantsStandIn 3 = false by kernel_rfl)⟩)
    (by kernel_rfl)
#print axioms pipeHides_holds
end Go.Proofs.YtigfgdefgnahpaaDoor.HidesHolds
