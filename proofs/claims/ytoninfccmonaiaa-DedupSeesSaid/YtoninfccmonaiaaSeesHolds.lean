/-
  The statement DedupSees is proved: for every state, size and number the law returns true, and its arguments read as they did. No condition.
-/
import Derived.Test.YtoninfccmonaiaaRows
import Derived.Test.YtoninfccmonaiaaSees
import Derived.Test.YtoninfccmonaiaaOpen
namespace Go.Proofs.Ytoninfccmonaiaa
open Go.ChangeShapes Go.WideShapes Go.ChangeAt Go.RowKit

theorem sees (zs : List Int) (size id : Int) (a : Option Addr) (n cap : Nat) (w : World) (hz : Ints w a n cap zs) :
    Calls Try.prog 3 #[.agg #[.slice a n cap], .int .i64 size, .int .i64 id] w (RB w (.bool true)) := by
  cases hf : fitB zs size with
  | false => exact sees_unfit zs size id a n cap w hz hf
  | true => exact sees_fit zs size id a n cap w hz hf _ rfl _ _ rfl rfl

theorem own : ownKnob Try.prog.godebug = none := by kernel_rfl
theorem laidOut : laidOutB Try.prog = true := by kernel_rfl

theorem array1 {cs : Array Value} (h : cs.size = 1) : ∃ c, cs = #[c] := by
  obtain ⟨l⟩ := cs
  match l, h with
  | [c], _ => exact ⟨c, rfl⟩
theorem cellsOf24 : Try.prog.cellsOf 24 = 1 := by kernel_rfl
theorem cellsOf22 : Try.prog.cellsOf 22 = 1 := by kernel_rfl
theorem cellsOf2 : Try.prog.cellsOf 2 = 1 := by kernel_rfl

theorem open_dedup {H : Type} {enc : TypeId × Value → H} {W : World} {cs : Array Value} {fuel : Nat} {x : DataW H × List MemPlace} (hsz : cs.size = Try.prog.cellsOf 24)
    (hf : DataW.trod enc Try.prog W 0 (fun _ => true) true fuel 24 (Value.agg cs).cells.toList = some x) : ∃ a len cap zs, cs = #[.slice a len cap] ∧ Ints W a len cap zs := by
  rw [cellsOf24] at hsz
  obtain ⟨c, rfl⟩ := array1 hsz
  obtain ⟨y0, n, _, _, hy⟩ := trod_struct1 Try.underlying24 hf
  simp only [cellsOf22] at hy
  obtain ⟨a, len, cap, zs, rfl, hz, _⟩ := open_rd Try.underlying22 Try.underlying2 cellsOf2 (c := c) hy
  exact ⟨a, len, cap, zs, rfl, hz⟩

set_option maxRecDepth 100000 in
theorem sees_lifted (os : Os) (started : os.Started) (H : Type) (enc : TypeId × Value → H) :
    ReturnsInHanded {} Try.checked os 3 .any (Rows.dedupSeesSpec.pre6 enc Try.prog Try.f3 Rows.dedupSeesRow.domain false) (Rows.dedupSeesSpec.post enc Try.prog Try.f3 false true false false) := by
  refine returnsInHanded_of_change (C := Try.checked) own started (by kernel_rfl) Try.func3
    (ChangeSpec.witness6 (enc := enc) (C := Try.checked) false ⟨#[], #[.agg #[.slice none 0 0], .int .i64 0, .int .i64 0], []⟩ 8 (by kernel_rfl) (by kernel_rfl) (by kernel_rfl) (by kernel_rfl)) ?_
  intro W base args ds gs before hval0 hW hcnd _
  have hval : ∀ (j : Nat) t v, Try.f3.params[j]? = some t → args[j]? = some v → Value.okWide Try.prog W .any base t v := hval0
  have hW' := hW
  obtain ⟨p, q, hA0, hV, rfl, hfz, hnd⟩ := hW
  have hA : DataW.TrodAll enc Try.prog W 0 (fun _ => true) true Try.f3.params.toList args.toList ds p := hA0
  rw [Try.params3] at hA hval
  obtain ⟨v0, v1, v2, d0, d1, d2, p0, p1, p2, rfl, rfl, rfl, h0, h1, h2⟩ := trodAll_three hA
  obtain ⟨rfl, rfl⟩ := trodVars_none hV
  have k0 := h0
  have lt0 : ∀ x ∈ p0, x.block < W.heap.size := by obtain ⟨m, hm⟩ := k0; exact DataW.trod_lt m _ _ _ hm
  obtain ⟨cs, rfl, hsz⟩ := okWide_struct Try.underlying24 (hval 0 24 v0 rfl rfl)
  obtain ⟨a, len, cap, zs, hcs, hz⟩ : ∃ a len cap zs, cs = #[.slice a len cap] ∧ Ints W a len cap zs := by
    obtain ⟨fuel, hf⟩ := h0
    exact open_dedup hsz hf
  subst hcs
  obtain ⟨sz, rfl, rfl, rfl, w1⟩ := open_int Try.underlying3 (hval 1 3 v1 rfl rfl) h1
  obtain ⟨id, rfl, rfl, rfl, w2⟩ := open_int Try.underlying2 (hval 2 2 v2 rfl rfl) h2
  clear hA0 hval0
  refine (sees zs sz id a len cap W hz).mono fun e W' ⟨he, bel⟩ => ?_
  subst he
  exact ⟨_, rfl, _, _, _, [], _, [], hW', trodAll_mk1 (shut_bool Try.underlying4 _), trodAll_mk3 (Below.trod laidOut (by kernel_rfl) (of_decide_eq_true (by kernel_rfl)) k0 bel lt0) (shut_int Try.underlying3 w1) (shut_int Try.underlying2 w2), rfl, bel.frame _, fun h => by cases h⟩

theorem dedupSees_holds : Rows.DedupSeesSaid :=
  OpenClaim.holds_of_wide 3 Try.f3 rfl rfl rfl rfl rfl rfl rfl ⟨rfl, rfl, rfl, rfl, rfl⟩ rfl rfl rfl rfl rfl (by kernel_rfl) Try.func3 (by kernel_rfl)
    (of_decide_eq_true (by kernel_rfl)) (by unfold Func.isWrapper; first | (rw [if_pos (by decide +kernel)]; kernel_rfl) | (rw [if_neg (by decide +kernel)]; exact ⟨rfl, rfl⟩))
    (fun os started H enc _ => sees_lifted os started H enc)
#print axioms dedupSees_holds
end Go.Proofs.Ytoninfccmonaiaa
