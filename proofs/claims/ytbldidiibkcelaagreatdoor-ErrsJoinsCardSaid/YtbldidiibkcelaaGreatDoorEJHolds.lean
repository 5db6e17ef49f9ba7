/-
  The statement ErrsJoins is proved: for any row of errors, any number and any error the law returns true, and its arguments read as they did. Condition: the listed package-level variable holds what the program's text lays (tied by the card).
-/
import Derived.Test.YtbldidiibkcelaaGreatDoorEJLaw
import Derived.Test.YtbldidiibkcelaaGreatDoorELaid
import Derived.Test.YtbldidiibkcelaaGreatDoorCards
import Derived.Test.YtbldidiibkcelaaGreatDoorTie
import Derived.SevenTiedAt
namespace Go.Proofs.YtbldidiibkcelaaGreatDoor.EJHolds
open Go.ChangeShapes Go.WideShapes Go.ChangeAt Go.RowKit
open Go.Proofs.YtbldidiibkcelaaGreatDoor

abbrev laidL : List (String × DataW Unit) := [("conduit/errs.errCompare", Rows.laid_conduit_errs_errCompare)]
theorem door_met (os : Os) (args : Array Value) : laidMetH Tryz.prog laidL ((World.doorLaid Tryz.prog 400 os).forCall (fun _ _ => 0) ⟨#[], args, []⟩).memory :=
  laidMet_of_run' 8 (by kernel_rfl) (by kernel_rfl)
theorem starE : "*" ++ "errors.errorString" = "*errors.errorString" := by decide
theorem row228 (u : TypeId) (h : Tryz.prog.typeName? 3 u = some "*errors.errorString") : u = 228 :=
  typeName_ptr_named (nm := "errors.errorString") (by rw [starE]; kernel_rfl) (by kernel_rfl) (by decide) u (by rw [starE]; exact h)
theorem gE : Tryz.prog.globalNamed "conduit/errs.errCompare" = some 0 := by kernel_rfl
theorem tE : (Tryz.prog.globals[0]?).map (·.type) = some 68 := by kernel_rfl
theorem co277 : Tryz.prog.cellsOf 277 = 1 := by kernel_rfl
set_option maxRecDepth 100000 in
theorem laid_of {W : World} (h : laidMetH Tryz.prog laidL W) : ∃ a0, LB a0 W := by
  have hm : laidMet Tryz.prog laidL W := h
  obtain ⟨ps, ⟨g0, t0, cs0, f0, p0, q0, hg0, ht0, hv0, hd0, hq0, e0⟩, _, hrows⟩ := hm
  obtain rfl := Option.some.inj (gE.symm.trans hg0)
  obtain rfl := Option.some.inj (tE.symm.trans ht0)
  subst e0
  obtain ⟨l0⟩ := cs0
  have ok0 : ∀ u v, l0 = [.iface u v] → Value.okWide Tryz.prog W .any 0 u v := fun u v e => by
    subst e
    exact (hrows 0 0 (by simp [MemPlace.row])).2 u v (by simpa using World.var?_cell hg0 hv0 0)
  obtain ⟨a, s, rfl, _, _, _, _⟩ := errorString_of_trod Tryz.underlying68 row228 Tryz.underlying228 Tryz.underlying277 rfl rfl Tryz.underlying9 co277 co9 hd0 ok0
  exact ⟨a, by unfold LB; simpa using World.var?_cell hg0 hv0 0⟩
theorem ownK : ownKnob Tryz.prog.godebug = none := by kernel_rfl
theorem laidOutK : laidOutB Tryz.prog = true := by kernel_rfl

set_option maxRecDepth 100000 in
theorem errsJoins_lifted (os : Os) (started : os.Started) (H : Type) (enc : TypeId × Value → H) :
    ReturnsInHanded {} Tryz.checked os 5 .any (fun w args => (Rows.errsJoinsSpec.pre enc Tryz.prog Tryz.f5 [] false w args ∧ laidMetH Tryz.prog laidL w) ∧ sizedMet enc Tryz.prog Tryz.f5 (OpenSpec.ofChange Rows.errsJoinsSpec) false w args)
      (Rows.errsJoinsSpec.post enc Tryz.prog Tryz.f5 false true false false) := by
  refine returnsInHanded_of_change_and (C := Tryz.checked) (X := fun w _ => laidMetH Tryz.prog laidL w) (fun _ _ _ hh h => h.of_heap hh) ownK started (by kernel_rfl) Tryz.func5
    (ChangeSpec.witness_shaped (enc := enc) (C := Tryz.checked) (os := os) (X := fun w _ => laidMetH Tryz.prog laidL w) false (World.doorLaid Tryz.prog 400 os)
      #[.slice none 0 0, .int .i64 0, .agg #[.int .i64 0, .int .i64 0, .int .i64 0, .string ByteArray.empty, .int .i64 0, .int .i64 0, .int .u64 0, .string ByteArray.empty, .slice none 0 0, .slice none 0 0, .slice none 0 0]] 8 rfl (World.shaped_of_RefB (by kernel_rfl) (by kernel_rfl)) (by kernel_rfl) (by kernel_rfl) (by kernel_rfl) (door_met os _)) ?_
  intro W base args ds gs before hval0 hW _ hsz hL _
  have hval : ∀ (j : Nat) t v, Tryz.f5.params[j]? = some t → args[j]? = some v → Value.okWide Tryz.prog W .any base t v := hval0
  have hW' := hW
  obtain ⟨p, q, hA0, hV, rfl, hfz, hnd⟩ := hW
  have hA : DataW.TrodAll enc Tryz.prog W 0 (fun _ => true) true Tryz.f5.params.toList args.toList ds p := hA0
  have hsz1 : (DataW.weightsEach Tryz.prog (Tryz.f5.params.toList ++ Rows.errsJoinsSpec.plain.varTypes Tryz.prog) (ds ++ gs)).all (· ≤ reachBytes) = true := hsz
  rw [Tryz.params5] at hA hval hsz1
  obtain ⟨v0, v1, v2, d0, d1, d2, p0, p1, p2, rfl, rfl, rfl, h0, h1, h2⟩ := trodAll_three hA
  obtain ⟨rfl, rfl⟩ := trodVars_none hV
  have hR : inReach 27 d0 ∧ inReach 29 d2 := by
    unfold inReach
    simp only [List.cons_append, List.nil_append, DataW.weightsEach, List.all_append, Bool.and_eq_true] at hsz1
    exact ⟨hsz1.1, hsz1.2.2.1⟩
  have k0 := h0
  have k2 := h2
  have lt0 : ∀ x ∈ p0, x.block < W.heap.size := by obtain ⟨m, hm⟩ := k0; exact DataW.trod_lt m _ _ _ hm
  have lt2 : ∀ x ∈ p2, x.block < W.heap.size := by obtain ⟨m, hm⟩ := k2; exact DataW.trod_lt m _ _ _ hm
  obtain ⟨lL, nL, cL, rfl⟩ := okWide_slice Tryz.underlying27 (hval 0 27 v0 rfl rfl)
  obtain ⟨id, rfl, rfl, rfl, r1⟩ := open_int Tryz.underlying2 (hval 1 2 v1 rfl rfl) h1
  obtain ⟨cs2, rfl, hsz2⟩ := okWide_struct Tryz.underlying29 (hval 2 29 v2 rfl rfl)
  have hOL : ∃ L : Eo, EoAt (fun b => b < W.heap.size) W L lL nL cL ∧ L.small := by
    obtain ⟨fuel, hf⟩ := h0
    have hf' : DataW.trod enc Tryz.prog W 0 (fun _ => true) true fuel 27 [.slice lL nL cL] = some (d0, p0) := hf
    obtain ⟨a, len, cap, l, e6, hr, hq, _⟩ := open_rowsG (c := .slice lL nL cL) (x := (d0, p0)) EEl.cells (EElOK W) 11 (fun _ => rfl) (by omega) Tryz.underlying27 co29 hR.1 (fun n' cs' y' _ h' hR' => open_eel n' h' hR') hf'
    cases e6
    exact ⟨eoOf l, ⟨_, ⟨hr, hr.ltb⟩, EAt_of l hq⟩, small_of l hq⟩
  have hO : ∃ (e : Et) (bl : Option Addr) (bn bc : Nat) (cl : Option Addr) (cn cc : Nat) (l : Option Addr) (n cap : Nat), Value.agg cs2 = vE e.k e.i e.c e.t e.b bl bn bc cl cn cc l n cap ∧
      ErAt (fun b => b < W.heap.size) W e bl bn bc cl cn cc l n cap ∧ e.cs.length ≤ 140737488355328 ∧ e.l.small ∧ foRng e.b.fo := by
    obtain ⟨fuel, hf⟩ := h2
    exact open_err hsz2 hf hR.2
  obtain ⟨L, hLA, hLS⟩ := hOL
  obtain ⟨e, bl, bn, bc, cl, cn, cc, l, n, cap, hv, hE, hcs, hks, _⟩ := hO
  obtain ⟨a0, hLB⟩ := laid_of hL
  clear hA0 hval0
  rw [hv] at hW' k2 ⊢
  refine (errsJoinsT hLA hLS hE (fun _ hx => hx) hcs hks hLB).mono fun r W' ⟨he, bel⟩ => ?_
  subst he
  exact ⟨_, rfl, _, _, _, [], _, [], hW', trodAll_mk1 (shut_bool Tryz.underlying4 _), trodAll_mk3 (Below.trod laidOutK (by kernel_rfl) (of_decide_eq_true (by kernel_rfl)) k0 bel lt0) (shut_int Tryz.underlying2 r1) (Below.trod laidOutK (by kernel_rfl) (of_decide_eq_true (by kernel_rfl)) k2 bel lt2), rfl, bel.frame _, fun h => by cases h⟩

theorem errsJoins_row : Rows.ErrsJoinsSaid :=
  OpenClaim.holds_of_wide 5 Tryz.f5 rfl rfl rfl rfl rfl rfl rfl ⟨rfl, rfl, rfl, rfl, rfl⟩ rfl rfl rfl rfl rfl (by kernel_rfl) Tryz.func5 (by kernel_rfl)
    (of_decide_eq_true (by kernel_rfl)) (by unfold Func.isWrapper; first | (rw [if_pos (by decide +kernel)]; kernel_rfl) | (rw [if_neg (by decide +kernel)]; exact ⟨rfl, rfl⟩))
    (fun os started H enc _ => errsJoins_lifted os started H enc)
theorem errsJoins_holds : Rows.ErrsJoinsCardSaid :=
  Claim7.holds_tied_plain_at .later [] [.sentinel] true (true, "4da6dd07b35e7d82970102e670fc68711a67e3c8a46fc815a9af7e09d11ffd05") true
    errsJoins_row (fun _ h => by cases h) (by kernel_rfl) (fun _ h => by cases h) errsJoins_row_tie rfl ⟨rfl, rfl⟩ (by kernel_rfl) rfl
    (fun f fn hf hfn => by
      obtain rfl : f = 5 := Option.some.inj ((show Tryz.prog.funcNamed "conduit/conduitlaw35.ErrsJoins" = some 5 by kernel_rfl).symm.trans hf) |>.symm
      obtain rfl : fn = Tryz.f5 := (Option.some.inj (Tryz.func5.symm.trans hfn)).symm
      exact ⟨by kernel_rfl, fun j t ht => by
        rw [Tryz.params5] at ht
        have hmem : t = 27 ∨ t = 2 ∨ t = 29 := by
          rcases j with _ | _ | _ | j
          · exact .inl (by simpa using ht.symm)
          · exact .inr (.inl (by simpa using ht.symm))
          · exact .inr (.inr (by simpa using ht.symm))
          · simp at ht
        rcases hmem with rfl | rfl | rfl
        · exact (show Tryz.prog.wantsStandIn 27 = false by kernel_rfl)
        · exact (show Tryz.prog.wantsStandIn 2 = false by kernel_rfl)
        · exact (show Tryz.prog.wantsStandIn 29 = false by kernel_rfl)⟩)
    (by kernel_rfl)
#print axioms errsJoins_holds
end Go.Proofs.YtbldidiibkcelaaGreatDoor.EJHolds
