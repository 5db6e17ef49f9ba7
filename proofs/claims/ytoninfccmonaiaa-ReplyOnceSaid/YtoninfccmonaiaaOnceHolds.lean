/-
  The statement ReplyOnce is proved: for every row of turns the law returns true, and its argument reads as it did. No condition.
-/
import Derived.Test.YtoninfccmonaiaaRows
import Derived.Test.YtoninfccmonaiaaAskOpen
import Derived.Test.YtoninfccmonaiaaOnceLaw
namespace Go.Proofs.Ytoninfccmonaiaa.OnceHolds
open Go.ChangeShapes Go.WideShapes Go.ChangeAt Go.RowKit
open Go.Proofs.Ytoninfccmonaiaa

theorem own : ownKnob Try.prog.godebug = none := by kernel_rfl
theorem laidOut : laidOutB Try.prog = true := by kernel_rfl
theorem turn58 : Try.prog.cellsOf 58 = 5 := by kernel_rfl
theorem ask3 : Try.prog.cellsOf 3 = 1 := by kernel_rfl

theorem open_turn {H : Type} {enc : TypeId × Value → H} {W : World} {n : Nat} {cs : List Value} {y : DataW H × List MemPlace} (h : DataW.trod enc Try.prog W 0 (fun _ => true) true n 58 cs = some y) :
    ∃ x : Turn, cs = turnV x ∧ True := by
  obtain ⟨xs, m, _, _, hl, hlen, hf⟩ := DataW.trod_struct Try.underlying58 h
  rw [turn58] at hl
  match cs, hl with
  | [c0, c1, c2, c3, c4], _ =>
    match xs, hlen with
    | [y0, y1, y2, y3, y4], _ =>
      have h0 := hf 0 _ rfl
      have h1 := hf 1 _ rfl
      have h2 := hf 2 _ rfl
      have h3 := hf 3 _ rfl
      have h4 := hf 4 _ rfl
      rw [show Try.prog.cellsOf (Field.type _) = 1 from ask3] at h0
      rw [show Try.prog.cellsOf (Field.type _) = 1 from ask2] at h1
      rw [show Try.prog.cellsOf (Field.type _) = 1 from ask9] at h2
      rw [show Try.prog.cellsOf (Field.type _) = 1 from ask2] at h3
      rw [show Try.prog.cellsOf (Field.type _) = 1 from ask2] at h4
      obtain ⟨z0, e0, _, _⟩ := DataW.trod_int Try.underlying3 (x := y0) h0
      obtain ⟨z1, e1, _, _⟩ := DataW.trod_int Try.underlying2 (x := y1) h1
      obtain ⟨z2, e2, _, _⟩ := DataW.trod_string Try.underlying9 (x := y2) h2
      obtain ⟨z3, e3, _, _⟩ := DataW.trod_int Try.underlying2 (x := y3) h3
      obtain ⟨z4, e4, _, _⟩ := DataW.trod_int Try.underlying2 (x := y4) h4
      have e0' : [c0] = [Value.int .i64 z0] := e0
      have e1' : [c1] = [Value.int .i64 z1] := e1
      have e2' : [c2] = [Value.string z2] := e2
      have e3' : [c3] = [Value.int .i64 z3] := e3
      have e4' : [c4] = [Value.int .i64 z4] := e4
      simp only [List.cons.injEq, and_true] at e0' e1' e2' e3' e4'
      exact ⟨(z0, z1, z2, z3, z4), by rw [e0', e1', e2', e3', e4']; rfl, trivial⟩
theorem open_turns {H : Type} {enc : TypeId × Value → H} {W : World} {c : Value} {fuel : Nat} {x : DataW H × List MemPlace}
    (hf : DataW.trod enc Try.prog W 0 (fun _ => true) true fuel 55 [c] = some x) : ∃ a len cap l, c = .slice a len cap ∧ Turns W a len cap l := by
  obtain ⟨a, len, cap, l, hd, hr, _⟩ := open_rows (c := c) turnV (fun _ => True) 5 (fun _ => rfl) (by omega) Try.underlying55 turn58 (fun n cs y h => open_turn h) hf
  exact ⟨a, len, cap, l, hd, hr⟩

set_option maxRecDepth 100000 in
theorem once_lifted (os : Os) (started : os.Started) (H : Type) (enc : TypeId × Value → H) :
    ReturnsInHanded {} Try.checked os 7 .any (Rows.replyOnceSpec.pre6 enc Try.prog Try.f7 Rows.replyOnceRow.domain false) (Rows.replyOnceSpec.post enc Try.prog Try.f7 false true false false) := by
  refine returnsInHanded_of_change (C := Try.checked) own started (by kernel_rfl) Try.func7
    (ChangeSpec.witness6 (enc := enc) (C := Try.checked) false ⟨#[], #[.slice none 0 0], []⟩ 8 (by kernel_rfl) (by kernel_rfl) (by kernel_rfl) (by kernel_rfl)) ?_
  intro W base args ds gs before hval0 hW hcnd _
  have hval : ∀ (j : Nat) t v, Try.f7.params[j]? = some t → args[j]? = some v → Value.okWide Try.prog W .any base t v := hval0
  have hW' := hW
  obtain ⟨p, q, hA0, hV, rfl, hfz, hnd⟩ := hW
  have hA : DataW.TrodAll enc Try.prog W 0 (fun _ => true) true Try.f7.params.toList args.toList ds p := hA0
  rw [Try.params7] at hA hval
  obtain ⟨v0, d0, rfl, rfl, h0⟩ := trodAll_one hA
  obtain ⟨rfl, rfl⟩ := trodVars_none hV
  have k0 := h0
  have lt0 : ∀ x ∈ p, x.block < W.heap.size := by obtain ⟨m, hm⟩ := k0; exact DataW.trod_lt m _ _ _ hm
  obtain ⟨a0, l0, c0, rfl⟩ := okWide_slice Try.underlying55 (hval 0 55 v0 rfl rfl)
  obtain ⟨a, len, cap, l, hcs, hz⟩ : ∃ a len cap l, Value.slice a0 l0 c0 = .slice a len cap ∧ Turns W a len cap l := by
    obtain ⟨fuel, hf⟩ := h0
    exact open_turns hf
  rw [hcs] at hW' k0 ⊢
  clear hA0 hval0
  refine (onceLaw l a len cap W hz).mono fun e W' ⟨he, bel⟩ => ?_
  subst he
  exact ⟨_, rfl, _, _, _, [], _, [], hW', trodAll_mk1 (shut_bool Try.underlying4 _), trodAll_mk1 (Below.trod laidOut (by kernel_rfl) (of_decide_eq_true (by kernel_rfl)) k0 bel lt0), rfl, bel.frame _, fun h => by cases h⟩

theorem replyOnce_holds : Rows.ReplyOnceSaid :=
  OpenClaim.holds_of_wide 7 Try.f7 rfl rfl rfl rfl rfl rfl rfl ⟨rfl, rfl, rfl, rfl, rfl⟩ rfl rfl rfl rfl rfl (by kernel_rfl) Try.func7 (by kernel_rfl)
    (of_decide_eq_true (by kernel_rfl)) (by unfold Func.isWrapper; first | (rw [if_pos (by decide +kernel)]; kernel_rfl) | (rw [if_neg (by decide +kernel)]; exact ⟨rfl, rfl⟩))
    (fun os started H enc _ => once_lifted os started H enc)
#print axioms replyOnce_holds
end Go.Proofs.Ytoninfccmonaiaa.OnceHolds
