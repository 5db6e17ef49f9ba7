/-
  A region that draws its order, whose last operation may turn what the others load: the condition on the world is asked ahead of that one alone. Not a statement of the seat.
-/
import Derived.Test.YtbldidiibkcelaaGreatDoorSlices
import Derived.Deep.RegionHeld3
namespace Go.Proofs.YtbldidiibkcelaaGreatDoor
open Go.RowKit

/-- the operation at a place, laid out -/
def nthO : List Oper → Nat → Option Oper
  | [], _ => none
  | o :: _, 0 => some o
  | _ :: l, n + 1 => nthO l n
theorem nthO_at : ∀ (l : List Oper) (i : Nat), l.toArray[i]? = nthO l i
  | [], _ => by simp [nthO]
  | o :: _, 0 => by simp [nthO]
  | _ :: l, n + 1 => by
    have := nthO_at l n
    simp only [List.getElem?_toArray] at this ⊢
    simpa [nthO] using this

section
variable {P : Program} {ops : Array Oper} {Q : Exit → Act → World → Prop} {md : Region.Mode} {S : World → Prop}

/-- all have come up -/
def allL (ops : Array Oper) (listed : Array Bool) : Prop := ∀ k, k < ops.size → listed.getD k false = true
/-- whatever has come up, what it waited for has, too -/
def ShutL (md : Region.Mode) (ops : Array Oper) (listed : Array Bool) : Prop := ∀ k ok, ops[k]? = some ok → listed.getD k false = true → ∀ e ∈ ok.after, Region.binds md e = true → listed.getD e.on false = true
def wpAnyL (P : Program) (md : Region.Mode) (ops : Array Oper) (Q : Exit → Act → World → Prop) (S : World → Prop) : Nat → Array Bool → Act → World → Prop
  | 0, listed, a, w => Region.ready md ops listed = [] ∧ Q .normal a w
  | fuel + 1, listed, a, w =>
    (Region.ready md ops listed = [] → Q .normal a w) ∧
    ∀ i ∈ Region.ready md ops listed, wpOp P ops Q i (fun a' w' => (allL ops (listed.setIfInBounds i true) ∨ S w') ∧ wpAnyL P md ops Q S fuel (listed.setIfInBounds i true) a' w') a w
theorem wpAny_of_L : ∀ (fuel : Nat) (listed : Array Bool) (a : Act) (w : World), wpAnyL P md ops Q S fuel listed a w → wpAny P md ops Q fuel listed a w
  | 0, _, _, _, h => h
  | fuel + 1, _, _, _, h => ⟨h.1, fun i hi => wpOp_mono (fun a' w' h' => wpAny_of_L fuel _ a' w' h'.2) (h.2 i hi)⟩
theorem ShutL.set {listed : Array Bool} {j : Nat} (h : ShutL md ops listed) (hj : j ∈ Region.ready md ops listed) : ShutL md ops (listed.setIfInBounds j true) := by
  intro k ok hk hl e he hb
  refine getD_set_true ?_
  by_cases hkj : k = j
  · subst hkj
    obtain ⟨_, o, ho, hall⟩ := mem_ready.1 hj
    rw [hk] at ho
    cases ho
    exact hall e he hb
  · rw [getD_set_ne false (Ne.symm hkj)] at hl
    exact h k ok hk hl e he hb
/-- an operation that another waits for is not among the last two -/
theorem not_all {listed : Array Bool} {i j k : Nat} {ok : Oper} (hk : ops[k]? = some ok) (hki : k ≠ i) (hw : ∃ e ∈ ok.after, Region.binds md e = true ∧ e.on = i)
    (hs : ShutL md ops listed) (hi : i ∈ Region.ready md ops listed) (hj : j ∈ Region.ready md ops listed) : ¬ allL ops ((listed.setIfInBounds i true).setIfInBounds j true) := by
  obtain ⟨e, he, hb, hei⟩ := hw
  intro hall
  have hiu := (mem_ready.1 hi).1
  have hif : listed.getD i false = true → False := fun h => by
    have : listed.getD i true = true := by
      rcases Nat.lt_or_ge i listed.size with h' | h'
      · simp [h'] at h ⊢; exact h
      · simp [Array.getElem?_eq_none h'] at h
    rw [hiu] at this
    cases this
  by_cases hkj : k = j
  · subst hkj
    obtain ⟨_, o, ho, hal⟩ := mem_ready.1 hj
    rw [hk] at ho
    cases ho
    have := hal e he hb
    rw [hei] at this
    exact hif this
  · have hlt : k < ops.size := (Array.getElem?_eq_some_iff.1 hk).1
    have h1 := hall k hlt
    rw [getD_set_ne false (Ne.symm hkj), getD_set_ne false (Ne.symm hki)] at h1
    have := hs k ok hk h1 e he hb
    rw [hei] at this
    exact hif this

/-- the law: OrdersHeld's, the condition not asked behind the last operation -/
theorem wpAnyL_first {i : Nat} {oi : Oper} {v : Value} (hi : ops[i]? = some oi) (hsel : ∀ (j : Nat) (o : Oper) cs b, ops[j]? = some o → o.op ≠ .select cs b)
    (hQ : ∀ c a w, Q (.panic c) (a.put oi.dst v) w → Q (.panic c) a w) {k : Nat} {ok : Oper} (hk : ops[k]? = some ok) (hki : k ≠ i) (hw : ∃ e ∈ ok.after, Region.binds md e = true ∧ e.on = i) :
    ∀ (fuel : Nat) (listed : Array Bool) (a : Act) (w : World), ShutL md ops listed →
      (∀ j oj, ops[j]? = some oj → j ≠ i → listed.getD j true = false → (∀ e ∈ oj.after, Region.binds md e = true → e.on ≠ i) → oi.apart ops oj = true) →
      i ∈ Region.ready md ops listed → YieldsIf P ops S oi v a → S w →
      wpAnyL P md ops Q S fuel (listed.setIfInBounds i true) (a.put oi.dst v) w → wpAnyL P md ops Q S (fuel + 1) listed a w := by
  intro fuel
  induction fuel with
  | zero =>
    intro listed a w _ _ hr hy hS H
    refine ⟨fun h => (by rw [h] at hr; cases hr), fun j hj => ?_⟩
    by_cases hji : j = i
    · subst hji; exact hy.wpOp hi hS ⟨.inr hS, H⟩
    · have := ready_mono hj hji
      rw [H.1] at this
      cases this
  | succ fuel ih =>
    intro listed a w hcl hfree hr hy hS H
    refine ⟨fun h => (by rw [h] at hr; cases hr), fun j hj => ?_⟩
    by_cases hji : j = i
    · subst hji; exact hy.wpOp hi hS ⟨.inr hS, H⟩
    · have h1 := H.2 j (ready_mono hj hji)
      obtain ⟨hjun, oj, hoj, hall⟩ := mem_ready.1 hj
      have hnot : ∀ e ∈ oj.after, Region.binds md e = true → e.on ≠ i := fun e he hb heq => by
        have h1 := hall e he hb
        have h0 := (mem_ready.1 hr).1
        rw [heq] at h1
        rcases Nat.lt_or_ge i listed.size with h' | h'
        · simp [h'] at h0 h1; rw [h0] at h1; cases h1
        · simp [Array.getElem?_eq_none h'] at h1
      have h2 := wpOp_putIf hoj (hfree j oj hoj hji hjun hnot) (fun cs b => hsel i oi cs b hi) (fun cs b => hsel j oj cs b hoj) hQ hy h1
      have hfree' : ∀ k ok, ops[k]? = some ok → k ≠ i → (listed.setIfInBounds j true).getD k true = false →
          (∀ e ∈ ok.after, Region.binds md e = true → e.on ≠ i) → oi.apart ops ok = true := fun k ok hk hki hun hno => by
        refine hfree k ok hk hki ?_ hno
        by_cases hjk : j = k
        · subst hjk; exact hjun
        · rw [getD_set_ne true hjk] at hun; exact hun
      refine wpOp_mono (fun a' w' h3 => ?_) h2
      have hSw : S w' := h3.2.1.resolve_left (not_all hk hki hw hcl hr hj)
      refine ⟨.inr hSw, ih (listed.setIfInBounds j true) a' w' (hcl.set hj) hfree' (ready_mono hr (Ne.symm hji)) h3.1 hSw ?_⟩
      rw [Array.setIfInBounds_comm _ _ hji]
      exact h3.2.2

/-- closed facts, for the kernel -/
def shutB (md : Region.Mode) (ops : Array Oper) (listed : Array Bool) : Bool := (List.range ops.size).all fun k => !listed.getD k false || match ops[k]? with
  | some ok => ok.after.all fun e => !Region.binds md e || listed.getD e.on false
  | none => true
theorem shutB_spec {listed : Array Bool} (h : shutB md ops listed = true) : ShutL md ops listed := by
  intro k ok hk hl e he hb
  have hlt : k < ops.size := (Array.getElem?_eq_some_iff.1 hk).1
  simp only [shutB, List.all_eq_true, List.mem_range] at h
  have h1 := h k hlt
  rw [hl, hk] at h1
  simp only [Bool.not_true, Bool.false_or, Array.all_eq_true_iff_forall_mem] at h1
  have h2 := h1 e he
  rw [hb] at h2
  simpa using h2
def waitB (md : Region.Mode) (ops : Array Oper) (i k : Nat) : Bool := k != i && match ops[k]? with
  | some ok => ok.after.any fun e => Region.binds md e && e.on == i
  | none => false
theorem waitB_spec {i k : Nat} (h : waitB md ops i k = true) : ∃ ok, ops[k]? = some ok ∧ k ≠ i ∧ ∃ e ∈ ok.after, Region.binds md e = true ∧ e.on = i := by
  unfold waitB at h
  rw [Bool.and_eq_true] at h
  obtain ⟨h1, h2⟩ := h
  cases hk : ops[k]? with
  | none => rw [hk] at h2; cases h2
  | some ok =>
    rw [hk] at h2
    obtain ⟨e, he, h3⟩ := Array.any_eq_true'.1 h2
    rw [Bool.and_eq_true, beq_iff_eq] at h3
    exact ⟨ok, rfl, by simpa using h1, e, he, h3.1, h3.2⟩
end
section
variable {P : Program} {md : Region.Mode} {l : List Oper} {Q : Exit → Act → World → Prop} {S : World → Prop}
/-- take number i first; number k waits for it -/
theorem takeL {i : Nat} (k : Nat) {oi : Oper} {v : Value} {fuel : Nat} {listed : Array Bool} {a : Act} {w : World} (hi : nthO l i = some oi)
    (hs : Region.noSelect l.toArray = true) (hf : Region.free md l.toArray listed i = true) (hr : (Region.ready md l.toArray listed).contains i = true) (hc : shutB md l.toArray listed = true) (hw : waitB md l.toArray i k = true)
    (hQ : ∀ c a w, Q (.panic c) (a.put oi.dst v) w → Q (.panic c) a w) (hy : YieldsIf P l.toArray S oi v a) (hS : S w)
    (h : wpAnyL P md l.toArray Q S fuel (listed.setIfInBounds i true) (a.put oi.dst v) w) : wpAnyL P md l.toArray Q S (fuel + 1) listed a w := by
  obtain ⟨ok, h1, h2, h3⟩ := waitB_spec hw
  have hi' := (nthO_at l i).trans hi
  exact wpAnyL_first hi' (Region.noSelect_spec hs) hQ h1 h2 h3 fuel listed a w (shutB_spec hc) (Region.free_spec hi' hf) (by simpa using hr) hy hS h
/-- one alone may come up -/
theorem oneL {fuel : Nat} {listed : Array Bool} {a : Act} {w : World} {i : Nat} {o : Oper} (hr : Region.ready md l.toArray listed = [i]) (ho : nthO l i = some o)
    (h : ∀ K' : Act → World → Prop, Shut (∀ a w, S w → (S w → wpAnyL P md l.toArray Q S fuel (listed.setIfInBounds i true) a w) → K' a w) → if Region.wanted o (yielded l.toArray a.tmps) = true then Oper.wp P o a w K' Q else K' (a.put o.dst undef) w) :
    wpAnyL P md l.toArray Q S (fuel + 1) listed a w := by
  refine ⟨fun h0 => (by rw [hr] at h0; cases h0), fun j hj => ?_⟩
  rw [hr, List.mem_singleton] at hj
  subst hj
  exact wpOp_step ((nthO_at l j).trans ho) (fun K' hK => h K' (fun a w hS hW => hK a w ⟨.inr hS, hW hS⟩))
/-- the last one -/
theorem lastL {fuel : Nat} {listed : Array Bool} {a : Act} {w : World} {i : Nat} {o : Oper} (hr : Region.ready md l.toArray listed = [i]) (ho : nthO l i = some o) (hall : (List.range l.length).all (fun k => (listed.setIfInBounds i true).getD k false) = true)
    (hd : Region.ready md l.toArray (listed.setIfInBounds i true) = [])
    (h : ∀ K' : Act → World → Prop, Shut (∀ a w, Q .normal a w → K' a w) → if Region.wanted o (yielded l.toArray a.tmps) = true then Oper.wp P o a w K' Q else K' (a.put o.dst undef) w) :
    wpAnyL P md l.toArray Q S (fuel + 1) listed a w := by
  refine ⟨fun h0 => (by rw [hr] at h0; cases h0), fun j hj => ?_⟩
  rw [hr, List.mem_singleton] at hj
  subst hj
  refine wpOp_step ((nthO_at l j).trans ho) (fun K' hK => h K' (fun a w hq => hK a w ⟨.inl (fun k hk => ?_), ?_⟩))
  · simp only [List.all_eq_true, List.mem_range] at hall
    exact hall k (by simpa using hk)
  · cases fuel with
    | zero => exact ⟨hd, hq⟩
    | succ f => exact ⟨fun _ => hq, by rw [hd]; simp⟩
/-- an append at a step of a region -/
theorem step_append_row {w : World} {ops : Array Oper} {o : Oper} {a : Act} {K : Act → World → Prop} {E : Prop} (hgd : o.guard = none) (s x : Operand) (t tx : TypeId)
    (hop : o.op = Op.call { callee := Callee.builtin Builtin.append, args := #[s, x], argTypes := #[t, tx] })
    (e : TypeId) (i : TypeInfo) (z : Value) (size bytes : Nat) (ht : P.underlying t = some (.slice e)) (hi : P.info? e = some i) (hz : i.zero = some z) (hsize : i.size = size) (hby : i.bytes = bytes) (hzs : z.cells.size = size)
    {B : Nat} {av : Option Addr} {n cap : Nat} {xs : List Value} (hs : a.eval s = .slice av n cap) (h : Row B w size av n cap xs) (m : Nat) (news : List Value) (hsrc : Src P size tx (a.eval x) m news w)
    (h63 : n + m ≤ maxLen) (hbytes : (n + m) * bytes ≤ 140737488355328) (hB : B ≤ w.heap.size)
    (hk : ∀ a' cap' w', Row B w' size a' (n + m) cap' (xs ++ news) → w.grownBy w' (blockOf av) → (blockOf a' = blockOf av ∨ blockOf a' = some w.heap.size) → K (a.put o.dst (.slice a' (n + m) cap')) w') :
    if Region.wanted o (yielded ops a.tmps) = true then Oper.wp P o a w K Q else E := by
  have hw : Region.wanted o (yielded ops a.tmps) = true := by simp [Region.wanted, hgd]
  rw [if_pos hw]
  obtain ⟨a', cap', w', hr, h1, h2, h3⟩ := run_append_row (P := P) (w := w) t tx o.type e i z size bytes ht hi hz hsize hby hzs h (a.eval x) m news hsrc h63 hbytes hB
  unfold Oper.wp
  simp [execOp, hop, resolve, invoke, builtin, hs, hr, Result.andThen]
  exact hk a' cap' w' h1 h2 h3
theorem wp_region_L {id : Nat} {a : Act} {w : World} (hm : P.follows .mixedOrders = true) (hS : S w.drew)
    (h : S w.drew → wpAnyL P .any l.toArray Q S l.length (Array.replicate l.length false) a w.drew) : (Code.region id l.toArray true).wp P Q a w :=
  wp_region_any hm (wpAny_of_L _ _ _ _ (by simpa using h hS))
end
end Go.Proofs.YtbldidiibkcelaaGreatDoor
