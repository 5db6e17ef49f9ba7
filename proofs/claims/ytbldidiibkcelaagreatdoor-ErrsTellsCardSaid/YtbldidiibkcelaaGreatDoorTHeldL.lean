/-
  A region that draws its order, whose last operation may turn what the others load: the condition on the world is asked ahead of that one alone. Not a statement of the seat.
-/
import Derived.Test.YtbldidiibkcelaaGreatDoorTSlices
import Derived.Deep.RegionHeld3
import Derived.Test.YtbldidiibkcelaaGreatDoorTEA1
namespace Go.Proofs.YtbldidiibkcelaaGreatDoor
open Go.RowKit

/-- the operation at a place, laid out -/
def nthO : List Oper → Nat → Option Oper
  | [], _ => none
  | o :: _, 0 => some o
  | _ :: l, n + 1 => nthO l n
theorem nthO_at : ∀ (l : List Oper) (i : Nat), l.toArray[i]? = nthO l i
  | [], _ => by simp [nthO]
  | o :: _, 0 => by simp [nthO]
  | _ :: l, n + 1 => by
    have := nthO_at l n
    simp only [List.getElem?_toArray] at this ⊢
    simpa [nthO] using this
section
variable {P : Program} {ops : Array Oper} {Q : Exit → Act → World → Prop} {md : Region.Mode} {S : World → Prop}

/-- all have come up -/
def allL (ops : Array Oper) (listed : Array Bool) : Prop := ∀ k, k < ops.size → listed.getD k false = true
/-- whatever has come up, what it waited for has, too -/
def ShutL (md : Region.Mode) (ops : Array Oper) (listed : Array Bool) : Prop := ∀ k ok, ops[k]? = some ok → listed.getD k false = true → ∀ e ∈ ok.after, Region.binds md e = true → listed.getD e.on false = true
def wpAnyL (P : Program) (md : Region.Mode) (ops : Array Oper) (Q : Exit → Act → World → Prop) (S : World → Prop) : Nat → Array Bool → Act → World → Prop
  | 0, listed, a, w => Region.ready md ops listed = [] ∧ Q .normal a w
  | fuel + 1, listed, a, w =>
    (Region.ready md ops listed = [] → Q .normal a w) ∧
    ∀ i ∈ Region.ready md ops listed, wpOp P ops Q i (fun a' w' => (allL ops (listed.setIfInBounds i true) ∨ S w') ∧ wpAnyL P md ops Q S fuel (listed.setIfInBounds i true) a' w') a w
theorem wpAny_of_L : ∀ (fuel : Nat) (listed : Array Bool) (a : Act) (w : World), wpAnyL P md ops Q S fuel listed a w → wpAny P md ops Q fuel listed a w
  | 0, _, _, _, h => h
  | fuel + 1, _, _, _, h => ⟨h.1, fun i hi => wpOp_mono (fun a' w' h' => wpAny_of_L fuel _ a' w' h'.2) (h.2 i hi)⟩
theorem ShutL.set {listed : Array Bool} {j : Nat} (h : ShutL md ops listed) (hj : j ∈ Region.ready md ops listed) : ShutL md ops (listed.setIfInBounds j true) := by
  intro k ok hk hl e he hb
  refine getD_set_true ?_
  by_cases hkj : k = j
  · subst hkj
    obtain ⟨_, o, ho, hall⟩ := mem_ready.1 hj
    rw [hk] at ho
    cases ho
    exact hall e he hb
  · rw [getD_set_ne false (Ne.symm hkj)] at hl
    exact h k ok hk hl e he hb
/-- an operation that another waits for is not among the last two -/
theorem not_all {listed : Array Bool} {i j k : Nat} {ok : Oper} (hk : ops[k]? = some ok) (hki : k ≠ i) (hw : ∃ e ∈ ok.after, Region.binds md e = true ∧ e.on = i)
    (hs : ShutL md ops listed) (hi : i ∈ Region.ready md ops listed) (hj : j ∈ Region.ready md ops listed) : ¬ allL ops ((listed.setIfInBounds i true).setIfInBounds j true) := by
  obtain ⟨e, he, hb, hei⟩ := hw
  intro hall
  have hiu := (mem_ready.1 hi).1
  have hif : listed.getD i false = true → False := fun h => by
    have : listed.getD i true = true := by
      rcases Nat.lt_or_ge i listed.size with h' | h'
      · simp [h'] at h ⊢; exact h
      · simp [Array.getElem?_eq_none h'] at h
    rw [hiu] at this
    cases this
  by_cases hkj : k = j
  · subst hkj
    obtain ⟨_, o, ho, hal⟩ := mem_ready.1 hj
    rw [hk] at ho
    cases ho
    have := hal e he hb
    rw [hei] at this
    exact hif this
  · have hlt : k < ops.size := (Array.getElem?_eq_some_iff.1 hk).1
    have h1 := hall k hlt
    rw [getD_set_ne false (Ne.symm hkj), getD_set_ne false (Ne.symm hki)] at h1
    have := hs k ok hk h1 e he hb
    rw [hei] at this
    exact hif this
/-- the law: OrdersHeld's, the condition not asked behind the last operation -/
theorem wpAnyL_first {i : Nat} {oi : Oper} {v : Value} (hi : ops[i]? = some oi) (hsel : ∀ (j : Nat) (o : Oper) cs b, ops[j]? = some o → o.op ≠ .select cs b)
    (hQ : ∀ c a w, Q (.panic c) (a.put oi.dst v) w → Q (.panic c) a w) {k : Nat} {ok : Oper} (hk : ops[k]? = some ok) (hki : k ≠ i) (hw : ∃ e ∈ ok.after, Region.binds md e = true ∧ e.on = i) :
    ∀ (fuel : Nat) (listed : Array Bool) (a : Act) (w : World), ShutL md ops listed →
      (∀ j oj, ops[j]? = some oj → j ≠ i → listed.getD j true = false → (∀ e ∈ oj.after, Region.binds md e = true → e.on ≠ i) → oi.apart ops oj = true) →
      i ∈ Region.ready md ops listed → YieldsIf P ops S oi v a → S w →
      wpAnyL P md ops Q S fuel (listed.setIfInBounds i true) (a.put oi.dst v) w → wpAnyL P md ops Q S (fuel + 1) listed a w := by
  intro fuel
  induction fuel with
  | zero =>
    intro listed a w _ _ hr hy hS H
    refine ⟨fun h => (by rw [h] at hr; cases hr), fun j hj => ?_⟩
    by_cases hji : j = i
    · subst hji; exact hy.wpOp hi hS ⟨.inr hS, H⟩
    · have := ready_mono hj hji
      rw [H.1] at this
      cases this
  | succ fuel ih =>
    intro listed a w hcl hfree hr hy hS H
    refine ⟨fun h => (by rw [h] at hr; cases hr), fun j hj => ?_⟩
    by_cases hji : j = i
    · subst hji; exact hy.wpOp hi hS ⟨.inr hS, H⟩
    · have h1 := H.2 j (ready_mono hj hji)
      obtain ⟨hjun, oj, hoj, hall⟩ := mem_ready.1 hj
      have hnot : ∀ e ∈ oj.after, Region.binds md e = true → e.on ≠ i := fun e he hb heq => by
        have h1 := hall e he hb
        have h0 := (mem_ready.1 hr).1
        rw [heq] at h1
        rcases Nat.lt_or_ge i listed.size with h' | h'
        · simp [h'] at h0 h1; rw [h0] at h1; cases h1
        · simp [Array.getElem?_eq_none h'] at h1
      have h2 := wpOp_putIf hoj (hfree j oj hoj hji hjun hnot) (fun cs b => hsel i oi cs b hi) (fun cs b => hsel j oj cs b hoj) hQ hy h1
      have hfree' : ∀ k ok, ops[k]? = some ok → k ≠ i → (listed.setIfInBounds j true).getD k true = false →
          (∀ e ∈ ok.after, Region.binds md e = true → e.on ≠ i) → oi.apart ops ok = true := fun k ok hk hki hun hno => by
        refine hfree k ok hk hki ?_ hno
        by_cases hjk : j = k
        · subst hjk; exact hjun
        · rw [getD_set_ne true hjk] at hun; exact hun
      refine wpOp_mono (fun a' w' h3 => ?_) h2
      have hSw : S w' := h3.2.1.resolve_left (not_all hk hki hw hcl hr hj)
      refine ⟨.inr hSw, ih (listed.setIfInBounds j true) a' w' (hcl.set hj) hfree' (ready_mono hr (Ne.symm hji)) h3.1 hSw ?_⟩
      rw [Array.setIfInBounds_comm _ _ hji]
      exact h3.2.2
/-- closed facts, for the kernel -/
def shutB (md : Region.Mode) (ops : Array Oper) (listed : Array Bool) : Bool := (List.range ops.size).all fun k => !listed.getD k false || match ops[k]? with
  | some ok => ok.after.all fun e => !Region.binds md e || listed.getD e.on false
  | none => true
theorem shutB_spec {listed : Array Bool} (h : shutB md ops listed = true) : ShutL md ops listed := by
  intro k ok hk hl e he hb
  have hlt : k < ops.size := (Array.getElem?_eq_some_iff.1 hk).1
  simp only [shutB, List.all_eq_true, List.mem_range] at h
  have h1 := h k hlt
  rw [hl, hk] at h1
  simp only [Bool.not_true, Bool.false_or, Array.all_eq_true_iff_forall_mem] at h1
  have h2 := h1 e he
  rw [hb] at h2
  simpa using h2
def waitB (md : Region.Mode) (ops : Array Oper) (i k : Nat) : Bool := k != i && match ops[k]? with
  | some ok => ok.after.any fun e => Region.binds md e && e.on == i
  | none => false
theorem waitB_spec {i k : Nat} (h : waitB md ops i k = true) : ∃ ok, ops[k]? = some ok ∧ k ≠ i ∧ ∃ e ∈ ok.after, Region.binds md e = true ∧ e.on = i := by
  unfold waitB at h
  rw [Bool.and_eq_true] at h
  obtain ⟨h1, h2⟩ := h
  cases hk : ops[k]? with
  | none => rw [hk] at h2; cases h2
  | some ok =>
    rw [hk] at h2
    obtain ⟨e, he, h3⟩ := Array.any_eq_true'.1 h2
    rw [Bool.and_eq_true, beq_iff_eq] at h3
    exact ⟨ok, rfl, by simpa using h1, e, he, h3.1, h3.2⟩
end
section
variable {P : Program} {md : Region.Mode} {l : List Oper} {Q : Exit → Act → World → Prop} {S : World → Prop}
/-- take number i first; number k waits for it -/
theorem takeL {i : Nat} (k : Nat) {oi : Oper} {v : Value} {fuel : Nat} {listed : Array Bool} {a : Act} {w : World} (hi : nthO l i = some oi)
    (hs : Region.noSelect l.toArray = true) (hf : Region.free md l.toArray listed i = true) (hr : (Region.ready md l.toArray listed).contains i = true) (hc : shutB md l.toArray listed = true) (hw : waitB md l.toArray i k = true)
    (hQ : ∀ c a w, Q (.panic c) (a.put oi.dst v) w → Q (.panic c) a w) (hy : YieldsIf P l.toArray S oi v a) (hS : S w)
    (h : wpAnyL P md l.toArray Q S fuel (listed.setIfInBounds i true) (a.put oi.dst v) w) : wpAnyL P md l.toArray Q S (fuel + 1) listed a w := by
  obtain ⟨ok, h1, h2, h3⟩ := waitB_spec hw
  have hi' := (nthO_at l i).trans hi
  exact wpAnyL_first hi' (Region.noSelect_spec hs) hQ h1 h2 h3 fuel listed a w (shutB_spec hc) (Region.free_spec hi' hf) (by simpa using hr) hy hS h
/-- one alone may come up -/
theorem oneL {fuel : Nat} {listed : Array Bool} {a : Act} {w : World} {i : Nat} {o : Oper} (hr : Region.ready md l.toArray listed = [i]) (ho : nthO l i = some o)
    (h : ∀ K' : Act → World → Prop, Shut (∀ a w, S w → (S w → wpAnyL P md l.toArray Q S fuel (listed.setIfInBounds i true) a w) → K' a w) → if Region.wanted o (yielded l.toArray a.tmps) = true then Oper.wp P o a w K' Q else K' (a.put o.dst undef) w) :
    wpAnyL P md l.toArray Q S (fuel + 1) listed a w := by
  refine ⟨fun h0 => (by rw [hr] at h0; cases h0), fun j hj => ?_⟩
  rw [hr, List.mem_singleton] at hj
  subst hj
  exact wpOp_step ((nthO_at l j).trans ho) (fun K' hK => h K' (fun a w hS hW => hK a w ⟨.inr hS, hW hS⟩))
/-- the last one -/
theorem lastL {fuel : Nat} {listed : Array Bool} {a : Act} {w : World} {i : Nat} {o : Oper} (hr : Region.ready md l.toArray listed = [i]) (ho : nthO l i = some o) (hall : (List.range l.length).all (fun k => (listed.setIfInBounds i true).getD k false) = true)
    (hd : Region.ready md l.toArray (listed.setIfInBounds i true) = [])
    (h : ∀ K' : Act → World → Prop, Shut (∀ a w, Q .normal a w → K' a w) → if Region.wanted o (yielded l.toArray a.tmps) = true then Oper.wp P o a w K' Q else K' (a.put o.dst undef) w) :
    wpAnyL P md l.toArray Q S (fuel + 1) listed a w := by
  refine ⟨fun h0 => (by rw [hr] at h0; cases h0), fun j hj => ?_⟩
  rw [hr, List.mem_singleton] at hj
  subst hj
  refine wpOp_step ((nthO_at l j).trans ho) (fun K' hK => h K' (fun a w hq => hK a w ⟨.inl (fun k hk => ?_), ?_⟩))
  · simp only [List.all_eq_true, List.mem_range] at hall
    exact hall k (by simpa using hk)
  · cases fuel with
    | zero => exact ⟨hd, hq⟩
    | succ f => exact ⟨fun _ => hq, by rw [hd]; simp⟩
/-- an append at a step of a region -/
theorem step_append_row {w : World} {ops : Array Oper} {o : Oper} {a : Act} {K : Act → World → Prop} {E : Prop} (hgd : o.guard = none) (s x : Operand) (t tx : TypeId)
    (hop : o.op = Op.call { callee := Callee.builtin Builtin.append, args := #[s, x], argTypes := #[t, tx] })
    (e : TypeId) (i : TypeInfo) (z : Value) (size bytes : Nat) (ht : P.underlying t = some (.slice e)) (hi : P.info? e = some i) (hz : i.zero = some z) (hsize : i.size = size) (hby : i.bytes = bytes) (hzs : z.cells.size = size)
    {B : Nat} {av : Option Addr} {n cap : Nat} {xs : List Value} (hs : a.eval s = .slice av n cap) (h : Row B w size av n cap xs) (m : Nat) (news : List Value) (hsrc : Src P size tx (a.eval x) m news w)
    (h63 : n + m ≤ maxLen) (hbytes : (n + m) * bytes ≤ 140737488355328) (hB : B ≤ w.heap.size)
    (hk : ∀ a' cap' w', Row B w' size a' (n + m) cap' (xs ++ news) → w.grownBy w' (blockOf av) → (blockOf a' = blockOf av ∨ blockOf a' = some w.heap.size) → K (a.put o.dst (.slice a' (n + m) cap')) w') :
    if Region.wanted o (yielded ops a.tmps) = true then Oper.wp P o a w K Q else E := by
  have hw : Region.wanted o (yielded ops a.tmps) = true := by simp [Region.wanted, hgd]
  rw [if_pos hw]
  obtain ⟨a', cap', w', hr, h1, h2, h3⟩ := run_append_row (P := P) (w := w) t tx o.type e i z size bytes ht hi hz hsize hby hzs h (a.eval x) m news hsrc h63 hbytes hB
  unfold Oper.wp
  simp [execOp, hop, resolve, invoke, builtin, hs, hr, Result.andThen]
  exact hk a' cap' w' h1 h2 h3
theorem wp_region_L {id : Nat} {a : Act} {w : World} (hm : P.follows .mixedOrders = true) (hS : S w.drew)
    (h : S w.drew → wpAnyL P .any l.toArray Q S l.length (Array.replicate l.length false) a w.drew) : (Code.region id l.toArray true).wp P Q a w :=
  wp_region_any hm (wpAny_of_L _ _ _ _ (by simpa using h hS))
end
end Go.Proofs.YtbldidiibkcelaaGreatDoor

/-
  walk over awake's errors (walks). Not a statement of the seat.
-/
namespace Go.Proofs.YtbldidiibkcelaaGreatDoor
open Go.RowKit

def F53 (tb fb tt : Nat) : Value := .func (Fn.func 53) #[] #[.pointer (some ⟨tb, 0, none⟩), .pointer (some ⟨fb, 0, none⟩), .pointer (some ⟨tt, 0, none⟩)]
/-- the blocks that walk lays first -/
def ww (w : World) (a : Option Addr) (n c : Nat) (f : Value) : World := (w.alloc (.cells #[.slice a n c] 49)).alloc (.cells #[f] 78)
theorem ww_facts (w : World) (a : Option Addr) (n c : Nat) (f : Value) : Blk (ww w a n c f) w.heap.size [.slice a n c] ∧ Blk (ww w a n c f) (w.heap.size + 1) [f] ∧ Below w.heap.size w (ww w a n c f) := by
  have e1 : (w.alloc (.cells #[.slice a n c] 49)).heap.size = w.heap.size + 1 := by simp
  have n1 := Blk.new w #[.slice a n c] 49
  have n2 := Blk.new (w.alloc (.cells #[.slice a n c] 49)) #[f] 78
  rw [e1] at n2
  exact ⟨n1.alloc _, n2, ((Below.refl _ w).alloc (Nat.le_refl _) _).alloc (by rw [e1]; omega) _⟩
set_option maxRecDepth 100000 in
set_option maxHeartbeats 8000000 in
theorem walkP {w : World} {tb fb tt : Nat} {u : Bool} (hT : Blk w tb VP0) (hF : Blk w fb [.bool u]) (ht : tb ≠ fb) (a : Option Addr) (n c : Nat) :
    Calls Tryz.prog 52 #[I0, .slice a n c, F53 tb fb tt] w (fun e w' => e = .returned (.bool false) ∧ Kept (N1 fb) w w' ∧ Blk w' fb [.bool true]) := by
  obtain ⟨h1, h2, hB⟩ := ww_facts w a n c (F53 tb fb tt)
  have HC := Lib.hid (is53P (tt := tt) (hT.below hB) (hF.below hB) ht (.slice a n c))
  have HB := Lib.hid hB
  have x0 := h1.cell 0 rfl
  have y0 := h2.cell 0 rfl
  clear hT hF ht h1 h2 hB
  unfold I0 at HC ⊢
  unfold F53 at *
  go_enter Tryz.func52, Tryz.ntmps52
  go_upto_region 1 with (fail)
  change Code.wp _ _ _ _ (ww w a n c (.func (Fn.func 53) #[] #[.pointer (some ⟨tb, 0, none⟩), .pointer (some ⟨fb, 0, none⟩), .pointer (some ⟨tt, 0, none⟩)]))
  generalize ww w a n c (.func (Fn.func 53) #[] #[.pointer (some ⟨tb, 0, none⟩), .pointer (some ⟨fb, 0, none⟩), .pointer (some ⟨tt, 0, none⟩)]) = w1 at *
  go_wp2_with (go_at_call 53; (with_reducible refine HC.out.mono ?_); rintro e2 w2 ⟨rfl, hK, hf⟩; have HK2 := Lib.hid hK; have HF2 := Lib.hid hf; clear hK hf)
  go_ret
  exact ⟨rfl, (Kept.of' HB.out).tail HK2.out (fun _ _ h => h), HF2.out⟩
set_option maxRecDepth 100000 in
theorem clip84 (w : World) : Calls Tryz.prog 84 #[.slice none 0 0] w (fun e w' => e = .returned (.slice none 0 0) ∧ w' = w) := by
  go_enter Tryz.func84, Tryz.ntmps84
  go_wp2_with fail
  go_ret
  exact ⟨rfl, rfl⟩
theorem info3m : (Tryz.prog.info? 3).map (fun i => (i.zero, i.size, i.bytes)) = some (some (.int .i64 0), 1, 8) := by kernel_rfl
theorem info3 : ∃ i, Tryz.prog.info? 3 = some i ∧ i.zero = some (.int .i64 0) ∧ i.size = 1 ∧ i.bytes = 8 := by
  have h := info3m
  cases hi : Tryz.prog.info? 3 with
  | none => rw [hi] at h; cases h
  | some i =>
    rw [hi] at h
    simp only [Option.map_some, Option.some.injEq, Prod.mk.injEq] at h
    exact ⟨i, rfl, h.1, h.2.1, h.2.2⟩
set_option maxRecDepth 100000 in
set_option maxHeartbeats 8000000 in
theorem next83 {w : World} {tb fb tt wb db : Nat} {u : Bool} (hT : Blk w tb VP0) (hF : Blk w fb [.bool u]) (ht : tb ≠ fb) (hW : Blk w wb [.slice none 0 0]) (hD : Blk w db [F53 tb fb tt]) (hwb : wb ≠ fb) (hdb : db ≠ fb) :
    Calls Tryz.prog 83 #[.int .i64 0, I0, .pointer (some ⟨wb, 0, none⟩), .pointer (some ⟨db, 0, none⟩)] w (fun e w' => e = .returned (.bool false) ∧ Kept (N1 fb) w w' ∧ Blk w' fb [.bool true]) := by
  have HK := Lib.hid (show ∀ wx, Kept (N1 fb) w wx → (wx.cell? ⟨wb, 0, none⟩ = some (.slice none 0 0) ∧ wx.cell? ⟨db, 0, none⟩ = some (F53 tb fb tt)) from fun wx hx => ⟨(hW.keep hx (fun h => hwb h)).cell 0 rfl, (hD.keep hx (fun h => hdb h)).cell 0 rfl⟩)
  have HC := Lib.hid (fun (wx : World) (hx : Below w.heap.size w wx) (a : Option Addr) (n c : Nat) => show Calls Tryz.prog 52 #[I0, .slice a n c, F53 tb fb tt] wx (fun e w' => e = .returned (.bool false) ∧ Kept (N1 fb) w w' ∧ Blk w' fb [.bool true]) from
    (walkP (tt := tt) (hT.below hx) (hF.below hx) ht a n c).mono (fun _ _ h => ⟨h.1, (Kept.of' (N := N1 fb) hx).tail h.2.1 (fun _ _ h => h), h.2.2⟩))
  have HCL := Lib.hid (fun wx => clip84 wx)
  clear hT hF ht hW hD hwb hdb
  unfold I0 at HC ⊢
  go_enter Tryz.func83, Tryz.ntmps83
  go_upto_region 1 with fail
  go_region_held3 (fun wx : World => wx.cell? ⟨wb, 0, none⟩ = some (.slice none 0 0) ∧ wx.cell? ⟨db, 0, none⟩ = some (F53 tb fb tt))
    (first | exact HK.out _ (Kept.refl _ _) | exact HK.out _ (Kept.refl _ _).drew | exact HK.out _ ((Kept.refl _ _).alloc _).drew | exact HK.out _ ((Kept.refl _ _).drew.alloc _) | exact HK.out _ (((Kept.refl _ _).alloc _).alloc _).drew.drew | exact HK.out _ (((Kept.refl _ _).alloc _).drew.alloc _).drew | exact HK.out _ (((Kept.refl _ _).drew.alloc _).alloc _).drew | exact HK.out _ HK3.out)
    (first
      | (go_simp; go_at_call 84; (with_reducible refine (HCL.out _).mono ?_); rintro e2 w2 ⟨rfl, rfl⟩)
      | (go_simp; go_at_call 52; (with_reducible refine (HC.out _ (((((Below.refl _ w).alloc (Nat.le_refl _) _).alloc (by simp) _).drew).drew) _ _ _).mono ?_); rintro e3 w3 ⟨rfl, hK3, hF3⟩; have HK3 := Lib.hid hK3; have HF3 := Lib.hid hF3; clear hK3 hF3))
  all_goals
    go_wp2_with fail
    go_ret
    exact ⟨rfl, HK3.out, HF3.out⟩
end Go.Proofs.YtbldidiibkcelaaGreatDoor

/-
  Is at awake's errors (walks). Not a statement of the seat.
-/
namespace Go.Proofs.YtbldidiibkcelaaGreatDoor
open Go.RowKit

theorem WAt.keep {w w' : World} {p b off fb : Nat} (h : WAt w p b off) (hK : Kept (N1 fb) w w') (hp : p ≠ fb) (hb : b ≠ fb) : WAt w' p b off :=
  ⟨h.1.keep hK (fun e => hp e), Nat.lt_of_lt_of_le h.2.1 hK.size, fun j hj => by rw [← h.2.2 j hj]; exact World.cell?_of_block (a := ⟨b, off + j, none⟩) (hK.block b h.2.1 (fun e => hb e))⟩
set_option maxRecDepth 100000 in
set_option maxHeartbeats 8000000 in
theorem walkW {w : World} {tb fb tt p b off : Nat} {u : Bool} (hA : WAt w p b off) (hp : p ≠ fb) (hb : b ≠ fb) (hT : Blk w tb VP0) (hF : Blk w fb [.bool u]) (ht : tb ≠ fb) :
    Calls Tryz.prog 52 #[IW p, .slice none 0 0, F53 tb fb tt] w (fun e w' => e = .returned (.bool false) ∧ Kept (N1 fb) w w' ∧ Blk w' fb [.bool true]) := by
  obtain ⟨h1, h2, hB⟩ := ww_facts w none 0 0 (F53 tb fb tt)
  have hlt := hF.1
  have HC := Lib.hid (is53W (tt := tt) (hA.below hB) (hT.below hB) (hF.below hB) ht (.slice none 0 0))
  have HB := Lib.hid hB
  have HCU := Lib.hid (fun (wx : World) (hx : Kept (N1 fb) w wx) => unwrap149 (hA.keep hx hp hb))
  have HCN := Lib.hid (fun (wx : World) (hx : Kept (N1 fb) w wx) (hf : Blk wx fb [.bool false]) (hw : Blk wx w.heap.size [.slice none 0 0]) (hd : Blk wx (w.heap.size + 1) [F53 tb fb tt]) =>
    show Calls Tryz.prog 83 #[.int .i64 0, I0, .pointer (some ⟨w.heap.size, 0, none⟩), .pointer (some ⟨w.heap.size + 1, 0, none⟩)] wx (fun e w' => e = .returned (.bool false) ∧ Kept (N1 fb) w w' ∧ Blk w' fb [.bool true]) from
      (next83 (hT.keep hx (fun e => ht e)) hf ht hw hd (by omega) (by omega)).mono (fun _ _ h => ⟨h.1, hx.tail h.2.1 (fun _ _ h => h), h.2.2⟩))
  have hmf : ∀ (fn : Fn) (first cap : Array Value) (w : World), (Instr.makeFunc fn first cap).run Tryz.prog w = .ok (.func fn first cap) w := fun _ _ _ _ => rfl
  have hta := fun v w => ta102_4 v w
  have hmu := fun v w => m102u v w
  have x0 := h1.cell 0 rfl
  have y0 := h2.cell 0 rfl
  have HH := Lib.hid (And.intro h1 (And.intro h2 (And.intro hlt hF)))
  clear hA hp hb hT hF ht h1 h2 hB hlt
  unfold IW at HC ⊢
  unfold I0 at HCU HCN
  unfold F53 at *
  go_enter Tryz.func52, Tryz.ntmps52
  go_upto_region 1 with (fail)
  change Code.wp _ _ _ _ (ww w none 0 0 (.func (Fn.func 53) #[] #[.pointer (some ⟨tb, 0, none⟩), .pointer (some ⟨fb, 0, none⟩), .pointer (some ⟨tt, 0, none⟩)]))
  generalize ww w none 0 0 (.func (Fn.func 53) #[] #[.pointer (some ⟨tb, 0, none⟩), .pointer (some ⟨fb, 0, none⟩), .pointer (some ⟨tt, 0, none⟩)]) = w1 at *
  go_upto_region 9 with (go_at_call 53; (with_reducible refine HC.out.mono ?_); rintro e2 w2 ⟨rfl, hK, hf⟩; have HK2 := Lib.hid ((Kept.of' (N := N1 fb) HB.out).tail hK (fun _ _ h => h)); have HF2 := Lib.hid hf; have HW2 := Lib.hid (HH.out.1.keep hK (fun e => by have h1 := HH.out.2.2.1; unfold N1 at e; omega)); have HD2 := Lib.hid (HH.out.2.1.keep hK (fun e => by have h1 := HH.out.2.2.1; unfold N1 at e; omega)); clear hK hf)
  go_wp2_with (first
    | (go_at_call 149; (with_reducible refine (HCU.out _ HK2.out).mono ?_); rintro e3 w3 ⟨rfl, hB3⟩; have HB3 := Lib.hid hB3; clear hB3)
    | (go_at_call 83; (with_reducible refine (HCN.out _ (HK2.out.calm HB3.out) (HF2.out.below HB3.out) (HW2.out.below HB3.out) (HD2.out.below HB3.out)).mono ?_); rintro e4 w4 ⟨rfl, hK4, hF4⟩; have HK4 := Lib.hid hK4; have HF4 := Lib.hid hF4; clear hK4 hF4))
  go_ret
  exact ⟨rfl, HK4.out, HF4.out⟩
set_option maxRecDepth 100000 in
set_option maxHeartbeats 8000000 in
theorem is51 {w : World} {vb tb tt p b off : Nat} (hV : Blk w vb [IW p]) (hA : WAt w p b off) (hT : Blk w tb VP0) :
    Calls Tryz.prog 51 #[.pointer (some ⟨vb, 0, none⟩), .pointer (some ⟨tb, 0, none⟩), .pointer (some ⟨tt, 0, none⟩)] w (fun e w' => e = .returned (.bool true) ∧ Below w.heap.size w w') := by
  have hB : Below w.heap.size w (w.alloc (.cells #[.bool false] 4)) := (Below.refl _ w).alloc (Nat.le_refl _) _
  have hF := Blk.new w #[.bool false] 4
  have HC := Lib.hid (fun (wx : World) (hx : Below w.heap.size w wx) (hf : Blk wx w.heap.size [.bool false]) => walkW (tt := tt) (fb := w.heap.size) (hA.below hx) (by have := hA.1.1; omega) (by have := hA.2.1; omega) (hT.below hx) hf (by have := hT.1; omega))
  have hmf : ∀ (fn : Fn) (first cap : Array Value) (w : World), (Instr.makeFunc fn first cap).run Tryz.prog w = .ok (.func fn first cap) w := fun _ _ _ _ => rfl
  have hv := hV.below hB
  have v0 := hv.cell 0 rfl
  have f0 := hF.cell 0 rfl
  have f1 := hF.free 0 (by simp)
  have HF := Lib.hid hF
  have HB := Lib.hid hB
  clear hV hA hT hv hF
  unfold F53 at HC
  go_enter Tryz.func51, Tryz.ntmps51
  go_upto_region 2 with (fail)
  generalize w.alloc (.cells #[.bool false] 4) = w1 at *
  go_wp2_with (go_at_call 52; (with_reducible refine (HC.out _ HB.out HF.out).mono ?_); rintro e3 w3 ⟨rfl, hK3, hF3⟩; have HK3 := Lib.hid hK3; have HF3 := Lib.hid hF3; have g0 := hF3.cell 0 rfl; clear hK3 hF3 f0 f1 v0)
  go_ret
  exact ⟨rfl, HB.out.trans (HK3.out.below HB.out.size (fun x hx e => by unfold N1 at e; omega))⟩
theorem catch_idle79 (p q : Addr) (w : World) :
    CallsD Tryz.prog 79 #[.pointer (some p), .pointer (some q)] .returning w fun e u' w' => e = .returned (.tuple #[]) ∧ u' = .returning ∧ w' = w := by
  refine callsD_of_wpS Tryz.func79 rfl fun c₀ cs hu => ?_
  apply wpS_seq
  apply wpS_region
  simp [wpOpsS, go_sem, recoverD, hu, Tryz.ntmps79, Exit.thenS]
  apply wpS_seq
  apply wpS_region
  simp [wpOpsS, go_sem, Exit.thenS]
  refine wpS_cond (t := false) (by simp [Act.eval, Array.replicate]) ?_
  simp only [Bool.false_eq_true, if_false]
  refine wpS_of_wp (wp_skip ?_)
  cases c₀
  simp_all [bodyPostS, results, Tryz.results79]
theorem c_res {tmps : Array Value} {w : World} {ib er : Nat} {x : Bool} {y : Int} (h2 : tmps.getD 2 undef = .pointer (some ⟨ib, 0, none⟩)) (h3 : tmps.getD 3 undef = .pointer (some ⟨er, 0, none⟩)) (hi : Blk w ib [.bool x]) (he : Blk w er [.int .i64 y]) :
    (results Tryz.f41 tmps).run Tryz.prog w = .ok (.tuple #[.bool x, .int .i64 y]) w := by
  have c0 := hi.cell 0 rfl
  have d0 := he.cell 0 rfl
  have h2' : tmps[2]?.getD undef = .pointer (some ⟨ib, 0, none⟩) := by simpa using h2
  have h3' : tmps[3]?.getD undef = .pointer (some ⟨er, 0, none⟩) := by simpa using h3
  simp [results, Tryz.results41, go_sem, h2', h3', c0, d0]
/-- the blocks that compared lays first -/
def cw (w : World) : World := (w.alloc (.cells #[.bool false] 4)).alloc (.cells #[.int .i64 0] 32)
theorem cw_facts (w : World) : Blk (cw w) w.heap.size [.bool false] ∧ Blk (cw w) (w.heap.size + 1) [.int .i64 0] ∧ Below w.heap.size w (cw w) := by
  have e1 : (w.alloc (.cells #[.bool false] 4)).heap.size = w.heap.size + 1 := by simp
  have n1 := Blk.new w #[.bool false] 4
  have n2 := Blk.new (w.alloc (.cells #[.bool false] 4)) #[.int .i64 0] 32
  rw [e1] at n2
  exact ⟨n1.alloc _, n2, ((Below.refl _ w).alloc (Nat.le_refl _) _).alloc (by rw [e1]; omega) _⟩
def F51 (vb tb tt : Nat) : Value := .func (Fn.func 51) #[] #[.pointer (some ⟨vb, 0, none⟩), .pointer (some ⟨tb, 0, none⟩), .pointer (some ⟨tt, 0, none⟩)]
set_option maxRecDepth 100000 in
set_option maxHeartbeats 8000000 in
theorem compared41 {w : World} {vb tb tt p b off : Nat} (hV : Blk w vb [IW p]) (hA : WAt w p b off) (hT : Blk w tb VP0) :
    Calls Tryz.prog 41 #[F51 vb tb tt] w (fun e w' => e = .returned (.tuple #[.bool true, .int .i64 0]) ∧ Below w.heap.size w w') := by
  obtain ⟨hI, hE, hB⟩ := cw_facts w
  have hmf : ∀ (fn : Fn) (first cap : Array Value) (w : World), (Instr.makeFunc fn first cap).run Tryz.prog w = .ok (.func fn first cap) w := fun _ _ _ _ => rfl
  have HC := Lib.hid (is51 (tt := tt) (hV.below hB) (hA.below hB) (hT.below hB))
  have HI := Lib.hid hI
  have HE := Lib.hid hE
  have HB := Lib.hid hB
  clear hV hA hT hI hE hB
  unfold F51
  go_enter_defers Tryz.func41, Tryz.ntmps41
  go_upto_region 1 with (fail)
  change Code.wp _ _ _ _ (cw w)
  generalize cw w = w1 at *
  obtain ⟨er, her⟩ : ∃ x, x = w.heap.size + 1 := ⟨_, rfl⟩
  obtain ⟨ib, hib⟩ : ∃ x, x = w.heap.size := ⟨_, rfl⟩
  rw [← her] at HE
  rw [← hib] at HI
  rw [← her, ← hib]
  have HAD := Lib.hid (show ib = w.heap.size ∧ er = w.heap.size + 1 from ⟨hib, her⟩)
  clear her hib
  go_wp2_with (go_at_call 51; (with_reducible refine HC.out.mono ?_); rintro eB wB ⟨rfl, hB⟩; have HBB := Lib.hid hB; have hi := HI.out.below hB; have he := HE.out.below hB; have i0 := hi.cell 0 rfl; have i1 := hi.free 0 (by simp); have e0 := he.cell 0 rfl; have e1 := he.free 0 (by simp); have hne : ib ≠ er := (by have := HAD.out; omega); have HI3 := Lib.hid hi; have HE3 := Lib.hid he; clear hB hi he)
  have hne : er ≠ ib := by have := HAD.out; omega
  refine leaves_cons (f := 79) (args := #[.pointer (some ⟨ib, 0, none⟩), .pointer (some ⟨er, 0, none⟩)]) (by simp) (by simp [go_sem]) ?_
  refine (catch_idle79 _ _ _).mono ?_
  rintro e u' w'' ⟨rfl, rfl, rfl⟩
  have hi4 := (HI3.out.set (j := 0) (.bool true)).other (p := ⟨er, 0, none⟩) (.int .i64 0) hne
  have he4 := (HE3.out.other (p := ⟨ib, 0, none⟩) (.bool true) (Ne.symm hne)).set (j := 0) (.int .i64 0)
  refine ⟨_, c_res rfl rfl hi4 he4, rfl, ?_⟩
  have h1 : Kept (fun x => x = ib ∨ x = er) wB ((wB.setCell ⟨ib, 0, none⟩ (.bool true)).setCell ⟨er, 0, none⟩ (.int .i64 0)) :=
    ((Kept.refl _ _).put (p := ⟨ib, 0, none⟩) _ (fun _ => .inl rfl)).put (p := ⟨er, 0, none⟩) _ (fun _ => .inr rfl)
  have h2 : Below w.heap.size w wB := HB.out.trans (HBB.out.mono HB.out.size)
  exact h2.trans (h1.below h2.size (fun x hx h => by have := HAD.out; omega))
end Go.Proofs.YtbldidiibkcelaaGreatDoor

/-
  Is and awake (walks). Not a statement of the seat.
-/
namespace Go.Proofs.YtbldidiibkcelaaGreatDoor
open Go.RowKit

theorem bel_al {w x : World} (h : Below w.heap.size w x) (o : Obj) : Below w.heap.size w (x.alloc o) := h.alloc h.size o
theorem bel_tr {w x y : World} (h : Below w.heap.size w x) (g : Below x.heap.size x y) : Below w.heap.size w y := h.trans (g.mono h.size)
theorem bel_set {w x : World} {v : Nat} (h : Below w.heap.size w x) (hv : w.heap.size ≤ v) (u : Value) : Below w.heap.size w (x.setCell ⟨v, 0, none⟩ u) :=
  (((Kept.of' (N := fun y => y = v) h).put (p := ⟨v, 0, none⟩) u (fun _ => rfl))).below (Nat.le_refl _) (fun y hy e => by omega)
theorem bel_dr {w x : World} (h : Below w.heap.size w x) : Below w.heap.size w x.drew := h.drew
theorem WAt.al {w : World} {p b off : Nat} (h : WAt w p b off) (o : Obj) : WAt (w.alloc o) p b off := h.below ((Below.refl _ _).alloc (Nat.le_refl _) _)
theorem Blk.new' {w : World} {x : Value} {t : TypeId} {v : Nat} (h : v = w.heap.size) : Blk (w.alloc (.cells #[x] t)) v [x] := by subst h; exact Blk.new w #[x] t
theorem Blk.dr {w : World} {v : Nat} {cs : List Value} (h : Blk w v cs) : Blk w.drew v cs := h.below (Below.refl _ _).drew
theorem nw1 (W : World) : (W.alloc (.cells #[.nilIface] 68)).cell? ⟨W.heap.size, 0, none⟩ = some .nilIface := (Blk.new W #[.nilIface] 68).cell 0 rfl
theorem nw2 (W : World) : (W.alloc (.cells #[.nilIface] 68)).frozen? ⟨W.heap.size, 0, none⟩ = false := (Blk.new W #[.nilIface] 68).free 0 (by simp)
theorem nd1 (W : World) : ((W.alloc (.cells #[.nilIface] 68)).alloc (.cells #[.nilIface] 68)).cell? ⟨W.heap.size, 0, none⟩ = some .nilIface := ((Blk.new W #[.nilIface] 68).alloc _).cell 0 rfl
theorem nd2 (W : World) : ((W.alloc (.cells #[.nilIface] 68)).alloc (.cells #[.nilIface] 68)).frozen? ⟨W.heap.size, 0, none⟩ = false := ((Blk.new W #[.nilIface] 68).alloc _).free 0 (by simp)
theorem nd3 (W : World) : ((W.alloc (.cells #[.nilIface] 68)).alloc (.cells #[.nilIface] 68)).cell? ⟨W.heap.size + 1, 0, none⟩ = some .nilIface := (Blk.new' (v := W.heap.size + 1) (by simp)).cell 0 rfl
theorem nd4 (W : World) : ((W.alloc (.cells #[.nilIface] 68)).alloc (.cells #[.nilIface] 68)).frozen? ⟨W.heap.size + 1, 0, none⟩ = false := (Blk.new' (v := W.heap.size + 1) (by simp)).free 0 (by simp)
theorem sz1 (W : World) (o : Obj) : W.heap.size + 1 ≤ (W.alloc o).drew.heap.size := Nat.le_of_eq (by simp [World.drew])
theorem sz2 (W : World) (o o2 : Obj) : W.heap.size + 2 ≤ ((W.alloc o).alloc o2).drew.heap.size := Nat.le_of_eq (by simp [World.drew])
theorem blk_set1 {x : World} {v : Nat} {y u : Value} (h : Blk x v [y]) : Blk (x.setCell ⟨v, 0, none⟩ u) v [u] := h.set (j := 0) u
theorem blk_oth {x : World} {v t : Nat} {cs : List Value} {u : Value} (h : Blk x v cs) (hn : t ≠ v) : Blk (x.setCell ⟨t, 0, none⟩ u) v cs := h.other (p := ⟨t, 0, none⟩) u hn
theorem wat_set {x : World} {z b off v : Nat} {u : Value} (h : WAt x z b off) (hz : z ≠ v) (hb : b ≠ v) : WAt (x.setCell ⟨v, 0, none⟩ u) z b off :=
  h.keep ((Kept.refl (N1 v) x).put (p := ⟨v, 0, none⟩) u (fun _ => rfl)) hz hb
theorem wp_gen67 {P : Program} {c : Code} {Q : Exit → Act → World → Prop} {a : Act} {W : World} {v t : Nat} (J : Nat → Nat → World → Prop) (_ : a.eval (.tmp 6) = .pointer (some ⟨v, 0, none⟩)) (_ : a.eval (.tmp 7) = .pointer (some ⟨t, 0, none⟩))
    (h : J v t W) (k : ∀ wz, J v t wz → c.wp P Q a wz) : c.wp P Q a W := k W h
set_option maxRecDepth 100000 in
set_option maxHeartbeats 8000000 in
theorem is16 {w : World} {b off : Nat} (hP : PAt w b off) :
    Calls Tryz.prog 16 #[W0 (some ⟨b, off, none⟩), P0] w (fun e w' => e = .returned (.tuple #[.bool true, .int .i64 0]) ∧ Below w.heap.size w w') := by
  obtain ⟨h1, h2, hB⟩ := two_facts w 3 1 0 [119] (some ⟨b, off, none⟩) 1
  unfold W0 P0 vE Dt.zero
  go_enter Tryz.func16, Tryz.ntmps16
  go_upto_region 1 with (fail)
  change Code.wp _ _ _ _ (two w 3 1 0 [119] (some ⟨b, off, none⟩) 1)
  generalize two w 3 1 0 [119] (some ⟨b, off, none⟩) 1 = w1 at *
  obtain ⟨q, hq⟩ : ∃ x, x = w.heap.size + 1 := ⟨_, rfl⟩
  obtain ⟨p, hp⟩ : ∃ x, x = w.heap.size := ⟨_, rfl⟩
  rw [← hq] at h2
  rw [← hp] at h1
  rw [← hq, ← hp]
  have HB := Lib.hid hB
  have HK := Lib.hid (show ∀ wx, Below w1.heap.size w1 wx → ((wx.cell? ⟨p, 0, none⟩ = some (.int .i64 3) ∧ wx.cell? ⟨p, 1, none⟩ = some (.int .i64 1) ∧ wx.cell? ⟨p, 2, none⟩ = some (.int .i64 0) ∧ wx.cell? ⟨p, 3, none⟩ = some (.string ⟨#[119]⟩) ∧ wx.cell? ⟨p, 4, none⟩ = some (.int .i64 0) ∧ wx.cell? ⟨p, 5, none⟩ = some (.int .i64 0) ∧ wx.cell? ⟨p, 6, none⟩ = some (.int .u64 0) ∧ wx.cell? ⟨p, 7, none⟩ = some (.string ⟨#[]⟩) ∧ wx.cell? ⟨p, 8, none⟩ = some (.slice none 0 0) ∧ wx.cell? ⟨p, 9, none⟩ = some (.slice none 0 0) ∧ wx.cell? ⟨p, 10, none⟩ = some (.slice (some ⟨b, off, none⟩) 1 1)) ∧ (wx.cell? ⟨q, 0, none⟩ = some (.int .i64 1) ∧ wx.cell? ⟨q, 1, none⟩ = some (.int .i64 0) ∧ wx.cell? ⟨q, 2, none⟩ = some (.int .i64 5) ∧ wx.cell? ⟨q, 3, none⟩ = some (.string ⟨#[112]⟩) ∧ wx.cell? ⟨q, 4, none⟩ = some (.int .i64 0) ∧ wx.cell? ⟨q, 5, none⟩ = some (.int .i64 0) ∧ wx.cell? ⟨q, 6, none⟩ = some (.int .u64 0) ∧ wx.cell? ⟨q, 7, none⟩ = some (.string ⟨#[]⟩) ∧ wx.cell? ⟨q, 8, none⟩ = some (.slice none 0 0) ∧ wx.cell? ⟨q, 9, none⟩ = some (.slice none 0 0) ∧ wx.cell? ⟨q, 10, none⟩ = some (.slice none 0 0))) from fun wx hx => by
    have a := h1.below hx
    have c := h2.below hx
    exact ⟨⟨a.cell 0 rfl, a.cell 1 rfl, a.cell 2 rfl, a.cell 3 rfl, a.cell 4 rfl, a.cell 5 rfl, a.cell 6 rfl, a.cell 7 rfl, a.cell 8 rfl, a.cell 9 rfl, a.cell 10 rfl⟩, ⟨c.cell 0 rfl, c.cell 1 rfl, c.cell 2 rfl, c.cell 3 rfl, c.cell 4 rfl, c.cell 5 rfl, c.cell 6 rfl, c.cell 7 rfl, c.cell 8 rfl, c.cell 9 rfl, c.cell 10 rfl⟩⟩)
  have HC1 := Lib.hid (fun (wx : World) (hx : Below w1.heap.size w1 wx) => valueW ((hP.below hB).below hx))
  have HC2 := Lib.hid (fun (wx : World) => valueP wx)
  have HT := Lib.hid h2
  have HCC := Lib.hid (fun (wx : World) (vb tb tt z : Nat) (h1 : Blk wx vb [IW z]) (h2 : WAt wx z b off) (h3 : Blk wx tb VP0) => compared41 (tt := tt) h1 h2 h3)
  unfold F51 IW at HCC
  have hbl : b < w1.heap.size := Nat.lt_of_lt_of_le hP.1 hB.size
  unfold W0 vE Dt.zero IW at HC1
  unfold P0 vE Dt.zero at HC2
  have n1 := fun W => nw1 W
  have n2 := fun W => nw2 W
  have d1 := fun W => nd1 W
  have d2 := fun W => nd2 W
  have d3 := fun W => nd3 W
  have d4 := fun W => nd4 W
  clear h1 h2 hB hP hq hp
  go_region_held3 (fun wx : World => (wx.cell? ⟨p, 0, none⟩ = some (.int .i64 3) ∧ wx.cell? ⟨p, 1, none⟩ = some (.int .i64 1) ∧ wx.cell? ⟨p, 2, none⟩ = some (.int .i64 0) ∧ wx.cell? ⟨p, 3, none⟩ = some (.string ⟨#[119]⟩) ∧ wx.cell? ⟨p, 4, none⟩ = some (.int .i64 0) ∧ wx.cell? ⟨p, 5, none⟩ = some (.int .i64 0) ∧ wx.cell? ⟨p, 6, none⟩ = some (.int .u64 0) ∧ wx.cell? ⟨p, 7, none⟩ = some (.string ⟨#[]⟩) ∧ wx.cell? ⟨p, 8, none⟩ = some (.slice none 0 0) ∧ wx.cell? ⟨p, 9, none⟩ = some (.slice none 0 0) ∧ wx.cell? ⟨p, 10, none⟩ = some (.slice (some ⟨b, off, none⟩) 1 1)) ∧ (wx.cell? ⟨q, 0, none⟩ = some (.int .i64 1) ∧ wx.cell? ⟨q, 1, none⟩ = some (.int .i64 0) ∧ wx.cell? ⟨q, 2, none⟩ = some (.int .i64 5) ∧ wx.cell? ⟨q, 3, none⟩ = some (.string ⟨#[112]⟩) ∧ wx.cell? ⟨q, 4, none⟩ = some (.int .i64 0) ∧ wx.cell? ⟨q, 5, none⟩ = some (.int .i64 0) ∧ wx.cell? ⟨q, 6, none⟩ = some (.int .u64 0) ∧ wx.cell? ⟨q, 7, none⟩ = some (.string ⟨#[]⟩) ∧ wx.cell? ⟨q, 8, none⟩ = some (.slice none 0 0) ∧ wx.cell? ⟨q, 9, none⟩ = some (.slice none 0 0) ∧ wx.cell? ⟨q, 10, none⟩ = some (.slice none 0 0)))
    (first | exact HK.out _ (Below.refl _ _) | exact HK.out _ (by with_reducible repeat (first | exact Below.refl _ _ | exact HB3.out | exact HB2.out | refine bel_al ?_ _ | refine bel_dr ?_ | refine bel_set ?_ ?_ _ | omega)))
    (first
      | (go_simp; go_at_call 50; (with_reducible refine (HC1.out (w1.drew) ((Below.refl _ w1).drew)).mono ?_); rintro eA wA ⟨z, rfl, hW, hBA, hz1, hz2⟩; have HB2 := Lib.hid (show Below w1.heap.size w1 wA from bel_tr ((Below.refl _ w1).drew) hBA); have HW2 := Lib.hid hW; have hsA := HB2.out.size; have hzA : w1.heap.size ≤ z := hz1; have hzB : z < wA.heap.size := hz2; clear hBA hW hz1 hz2)
      | (go_simp; go_at_call 50; (with_reducible refine (HC1.out ((w1.alloc (.cells #[.nilIface] 68)).drew) (bel_dr (bel_al (Below.refl _ w1) _))).mono ?_); rintro eA wA ⟨z, rfl, hW, hBA, hz1, hz2⟩; have HB2 := Lib.hid (show Below w1.heap.size w1 wA from bel_tr (bel_dr (bel_al (Below.refl _ w1) _)) hBA); have HW2 := Lib.hid hW; have qah := (((Blk.new w1 #[.nilIface] 68).dr).below hBA : Blk wA w1.heap.size [.nilIface]); have qa0 := qah.cell 0 rfl; have qa1 := qah.free 0 (by simp); have qa2 := qah.1; have QA := Lib.hid qah; clear qah; have hsA := HB2.out.size; have hzA : w1.heap.size + 1 ≤ z := Nat.le_trans (sz1 w1 _) hz1; have hzB : z < wA.heap.size := hz2; clear hBA hW hz1 hz2)
      | (go_simp; go_at_call 50; (with_reducible refine (HC1.out (((w1.alloc (.cells #[.nilIface] 68)).alloc (.cells #[.nilIface] 68)).drew) (bel_dr (bel_al (bel_al (Below.refl _ w1) _) _))).mono ?_); rintro eA wA ⟨z, rfl, hW, hBA, hz1, hz2⟩; have HB2 := Lib.hid (show Below w1.heap.size w1 wA from bel_tr (bel_dr (bel_al (bel_al (Below.refl _ w1) _) _)) hBA); have HW2 := Lib.hid hW; have qah := ((((Blk.new w1 #[.nilIface] 68).alloc _).dr).below hBA : Blk wA w1.heap.size [.nilIface]); have qa0 := qah.cell 0 rfl; have qa1 := qah.free 0 (by simp); have qa2 := qah.1; have QA := Lib.hid qah; clear qah; have qbh := (((Blk.new' (w := w1.alloc (.cells #[.nilIface] 68)) (x := .nilIface) (t := 68) (v := w1.heap.size + 1) (by simp)).dr).below hBA : Blk wA (w1.heap.size + 1) [.nilIface]); have qb0 := qbh.cell 0 rfl; have qb1 := qbh.free 0 (by simp); have qb2 := qbh.1; have QB := Lib.hid qbh; clear qbh; have hsA := HB2.out.size; have hzA : w1.heap.size + 2 ≤ z := Nat.le_trans (sz2 w1 _ _) hz1; have hzB : z < wA.heap.size := hz2; clear hBA hW hz1 hz2)
      | (go_simp; go_at_call 50; (with_reducible refine (HC2.out (wA)).mono ?_); rintro eB wB ⟨rfl, hBB⟩; have HB3 := Lib.hid (show Below w1.heap.size w1 wB from bel_tr HB2.out (bel_tr (Below.refl _ wA) hBB)); have HW3 := Lib.hid (HW2.out.below (bel_tr (Below.refl _ wA) hBB)); have rah := QA.out.below (bel_tr (Below.refl _ wA) hBB); have ra0 := rah.cell 0 rfl; have ra1 := rah.free 0 (by simp); have ra2 := rah.1; have RA := Lib.hid rah; clear rah; have rbh := QB.out.below (bel_tr (Below.refl _ wA) hBB); have rb0 := rbh.cell 0 rfl; have rb1 := rbh.free 0 (by simp); have rb2 := rbh.1; have RB := Lib.hid rbh; clear rbh; have hsB := HB3.out.size; clear hBB qa0 qa1 qb0 qb1)
      | (go_simp; go_at_call 50; (with_reducible refine (HC2.out ((wA.alloc (.cells #[.nilIface] 68)))).mono ?_); rintro eB wB ⟨rfl, hBB⟩; have HB3 := Lib.hid (show Below w1.heap.size w1 wB from bel_tr HB2.out (bel_tr (bel_al (Below.refl _ wA) _) hBB)); have HW3 := Lib.hid (HW2.out.below (bel_tr (bel_al (Below.refl _ wA) _) hBB)); have rah := QA.out.below (bel_tr (bel_al (Below.refl _ wA) _) hBB); have ra0 := rah.cell 0 rfl; have ra1 := rah.free 0 (by simp); have ra2 := rah.1; have RA := Lib.hid rah; clear rah; have rch := ((Blk.new wA #[.nilIface] 68).below hBB : Blk wB wA.heap.size [.nilIface]); have rc0 := rch.cell 0 rfl; have rc1 := rch.free 0 (by simp); have rc2 := rch.1; have RC := Lib.hid rch; clear rch; have hsB := HB3.out.size; clear hBB qa0 qa1)
      | (go_simp; go_at_call 50; (with_reducible refine (HC2.out (wA)).mono ?_); rintro eB wB ⟨rfl, hBB⟩; have HB3 := Lib.hid (show Below w1.heap.size w1 wB from bel_tr HB2.out (bel_tr (Below.refl _ wA) hBB)); have HW3 := Lib.hid (HW2.out.below (bel_tr (Below.refl _ wA) hBB)); have rah := QA.out.below (bel_tr (Below.refl _ wA) hBB); have ra0 := rah.cell 0 rfl; have ra1 := rah.free 0 (by simp); have ra2 := rah.1; have RA := Lib.hid rah; clear rah; have hsB := HB3.out.size; clear hBB qa0 qa1)
      | (go_simp; go_at_call 50; (with_reducible refine (HC2.out (((wA.alloc (.cells #[.nilIface] 68)).alloc (.cells #[.nilIface] 68)))).mono ?_); rintro eB wB ⟨rfl, hBB⟩; have HB3 := Lib.hid (show Below w1.heap.size w1 wB from bel_tr HB2.out (bel_tr (bel_al (bel_al (Below.refl _ wA) _) _) hBB)); have HW3 := Lib.hid (HW2.out.below (bel_tr (bel_al (bel_al (Below.refl _ wA) _) _) hBB)); have rch := (((Blk.new wA #[.nilIface] 68).alloc _).below hBB : Blk wB wA.heap.size [.nilIface]); have rc0 := rch.cell 0 rfl; have rc1 := rch.free 0 (by simp); have rc2 := rch.1; have RC := Lib.hid rch; clear rch; have rdh := ((Blk.new' (w := wA.alloc (.cells #[.nilIface] 68)) (x := .nilIface) (t := 68) (v := wA.heap.size + 1) (by simp)).below hBB : Blk wB (wA.heap.size + 1) [.nilIface]); have rd0 := rdh.cell 0 rfl; have rd1 := rdh.free 0 (by simp); have rd2 := rdh.1; have RD := Lib.hid rdh; clear rdh; have hsB := HB3.out.size; clear hBB)
      | (go_simp; go_at_call 50; (with_reducible refine (HC2.out ((wA.alloc (.cells #[.nilIface] 68)))).mono ?_); rintro eB wB ⟨rfl, hBB⟩; have HB3 := Lib.hid (show Below w1.heap.size w1 wB from bel_tr HB2.out (bel_tr (bel_al (Below.refl _ wA) _) hBB)); have HW3 := Lib.hid (HW2.out.below (bel_tr (bel_al (Below.refl _ wA) _) hBB)); have rch := ((Blk.new wA #[.nilIface] 68).below hBB : Blk wB wA.heap.size [.nilIface]); have rc0 := rch.cell 0 rfl; have rc1 := rch.free 0 (by simp); have rc2 := rch.1; have RC := Lib.hid rch; clear rch; have hsB := HB3.out.size; clear hBB)
      | (go_simp; go_at_call 50; (with_reducible refine (HC2.out (wA)).mono ?_); rintro eB wB ⟨rfl, hBB⟩; have HB3 := Lib.hid (show Below w1.heap.size w1 wB from bel_tr HB2.out (bel_tr (Below.refl _ wA) hBB)); have HW3 := Lib.hid (HW2.out.below (bel_tr (Below.refl _ wA) hBB)); have hsB := HB3.out.size; clear hBB))
  all_goals
    go_upto_region 2 with fail
    refine wp_gen67 (J := fun v t wz => Blk wz v [.iface 102 (.pointer (some ⟨z, 0, none⟩))] ∧ Blk wz t [.iface 101 (.agg #[.int .i64 5, .string ⟨#[112]⟩])] ∧ WAt wz z b off ∧ Below w1.heap.size w1 wz) rfl rfl ⟨?_, ?_, ?_, ?_⟩ ?_
    · with_reducible repeat (first | exact RA.out | exact RB.out | exact RC.out | exact RD.out | exact Blk.new' (by simp) | refine blk_set1 (y := .nilIface) ?_ | refine blk_oth ?_ ?_ | refine Blk.alloc ?_ _ | omega)
    · with_reducible repeat (first | exact RA.out | exact RB.out | exact RC.out | exact RD.out | exact Blk.new' (by simp) | refine blk_set1 (y := .nilIface) ?_ | refine blk_oth ?_ ?_ | refine Blk.alloc ?_ _ | omega)
    · with_reducible repeat (first | exact HW3.out | refine WAt.al ?_ _ | refine wat_set ?_ ?_ ?_ | omega)
    · with_reducible repeat (first | exact HB3.out | refine bel_al ?_ _ | refine bel_set ?_ ?_ _ | omega)
    · rintro wz ⟨hv, ht, hw, hb⟩
      have v0 := hv.cell 0 rfl
      have t0 := ht.cell 0 rfl
      have HV := Lib.hid hv
      have HWZ := Lib.hid hw
      have HBZ := Lib.hid hb
      clear hv ht hw hb
      go_wp2_with (go_at_call 41; (with_reducible refine (HCC.out _ _ _ _ _ HV.out HWZ.out (HT.out.below HBZ.out)).mono ?_); rintro e5 w5 ⟨rfl, hB5⟩; have HB5 := Lib.hid hB5; clear hB5)
      go_ret2
      exact ⟨rfl, HB.out.trans ((HBZ.out.trans (HB5.out.mono HBZ.out.size)).mono HB.out.size)⟩
end Go.Proofs.YtbldidiibkcelaaGreatDoor

/-
  awake (walk). Not a statement of the seat.
-/
namespace Go.Proofs.YtbldidiibkcelaaGreatDoor
open Go.RowKit

def kidsW : Eo := .cons 1 0 5 [112] Dt.zero [] .nil .nil
theorem validWM : evalidM ⟨3, 1, 0, [119], Dt.zero, [], kidsW⟩ = true := by decide +kernel
theorem erW {w : World} {g : Nat} (h : PAt w g 0) : ErAt (fun x => x < w.heap.size) w ⟨3, 1, 0, [119], Dt.zero, [], kidsW⟩ none 0 0 none 0 0 (some ⟨g, 0, none⟩) 1 1 := by
  refine ⟨FoAt.nil _ _, ⟨Rd.nil _ _, fun _ h => absurd h (by omega)⟩, VP0, ⟨⟨rfl, Nat.le_refl _, by unfold maxLen; omega, .inr ⟨g, 0, rfl, h.1, fun j hj => ?_⟩⟩, fun x _ hx => by cases hx; exact h.1⟩, ?_⟩
  · rw [← h.2 j hj]
  · exact ⟨none, 0, 0, none, 0, 0, none, 0, 0, [], [], rfl, FoAt.nil _ _, ⟨Rd.nil _ _, fun _ h => absurd h (by omega)⟩, ⟨Rd.nil _ _, fun _ h => absurd h (by omega)⟩, rfl, rfl⟩
theorem validW18 {w : World} {g : Nat} (h : PAt w g 0) : Calls Tryz.prog 18 #[W0 (some ⟨g, 0, none⟩)] w (fun r w' => r = .returned (.bool true) ∧ Below w.heap.size w w') := by
  have := evalidN (erW h) (fun x hx => hx) (by simp) (by simp [Eo.small, kidsW])
  rw [validWM] at this
  exact this
/-- the two blocks that awake lays first -/
def aw (w : World) : World := (w.alloc (.cells #[.int .i64 1, .int .i64 0, .int .i64 5, .string ⟨#[112]⟩, .int .i64 0, .int .i64 0, .int .u64 0, .string ⟨#[]⟩, .slice none 0 0, .slice none 0 0, .slice none 0 0] 29)).alloc
  (.cells #[.int .i64 3, .int .i64 1, .int .i64 0, .string ⟨#[119]⟩, .int .i64 0, .int .i64 0, .int .u64 0, .string ⟨#[]⟩, .slice none 0 0, .slice none 0 0, .slice (some ⟨w.heap.size, 0, none⟩) 1 1] 29)
theorem aw_facts (w : World) : PAt (aw w) w.heap.size 0 ∧ Blk (aw w) (w.heap.size + 1) (VW0 (some ⟨w.heap.size, 0, none⟩)) ∧ Below w.heap.size w (aw w) := by
  have n1 := (Blk.new w #[.int .i64 1, .int .i64 0, .int .i64 5, .string ⟨#[112]⟩, .int .i64 0, .int .i64 0, .int .u64 0, .string ⟨#[]⟩, .slice none 0 0, .slice none 0 0, .slice none 0 0] 29)
  have hb : Below w.heap.size w (w.alloc (.cells #[.int .i64 1, .int .i64 0, .int .i64 5, .string ⟨#[112]⟩, .int .i64 0, .int .i64 0, .int .u64 0, .string ⟨#[]⟩, .slice none 0 0, .slice none 0 0, .slice none 0 0] 29)) := (Below.refl _ _).alloc (Nat.le_refl _) _
  have e1 : (w.alloc (.cells #[.int .i64 1, .int .i64 0, .int .i64 5, .string ⟨#[112]⟩, .int .i64 0, .int .i64 0, .int .u64 0, .string ⟨#[]⟩, .slice none 0 0, .slice none 0 0, .slice none 0 0] 29)).heap.size = w.heap.size + 1 := by simp
  unfold aw
  generalize w.alloc (.cells #[.int .i64 1, .int .i64 0, .int .i64 5, .string ⟨#[112]⟩, .int .i64 0, .int .i64 0, .int .u64 0, .string ⟨#[]⟩, .slice none 0 0, .slice none 0 0, .slice none 0 0] 29) = w1 at *
  have n2 := Blk.new w1 #[.int .i64 3, .int .i64 1, .int .i64 0, .string ⟨#[119]⟩, .int .i64 0, .int .i64 0, .int .u64 0, .string ⟨#[]⟩, .slice none 0 0, .slice none 0 0, .slice (some ⟨w.heap.size, 0, none⟩) 1 1] 29
  rw [e1] at n2
  have n3 := n1.alloc (.cells #[.int .i64 3, .int .i64 1, .int .i64 0, .string ⟨#[119]⟩, .int .i64 0, .int .i64 0, .int .u64 0, .string ⟨#[]⟩, .slice none 0 0, .slice none 0 0, .slice (some ⟨w.heap.size, 0, none⟩) 1 1] 29)
  exact ⟨⟨n3.1, fun j hj => by rw [Nat.zero_add]; exact (n3.2 j hj).1⟩, n2, hb.alloc hb.size _⟩
set_option maxRecDepth 100000 in
set_option maxHeartbeats 8000000 in
theorem awakeT (w : World) : Calls Tryz.prog 11 #[] w (fun e w' => e = .returned (.bool true) ∧ Below w.heap.size w w') := by
  have HC := Lib.hid (plain5 w)
  unfold P0 vE Dt.zero at HC
  go_enter Tryz.func11, Tryz.ntmps11
  go_upto_region 2 with (go_at_call 34; (with_reducible refine HC.out.mono ?_); rintro eA wA ⟨rfl, hBA⟩; have HBA := Lib.hid hBA; clear hBA)
  change Code.wp _ _ _ _ (aw wA)
  obtain ⟨hP, hA, hB⟩ := aw_facts wA
  generalize aw wA = w1 at *
  obtain ⟨p, hp⟩ : ∃ x, x = wA.heap.size + 1 := ⟨_, rfl⟩
  obtain ⟨g, hg⟩ : ∃ x, x = wA.heap.size := ⟨_, rfl⟩
  rw [← hp] at hA
  rw [← hg] at hA hP
  rw [← hp, ← hg]
  have HB := Lib.hid (HBA.out.trans (hB.mono HBA.out.size))
  have HK := Lib.hid (show ∀ wx, Below w1.heap.size w1 wx → (wx.cell? ⟨p, 0, none⟩ = some (.int .i64 3) ∧ wx.cell? ⟨p, 1, none⟩ = some (.int .i64 1) ∧ wx.cell? ⟨p, 2, none⟩ = some (.int .i64 0) ∧ wx.cell? ⟨p, 3, none⟩ = some (.string ⟨#[119]⟩) ∧ wx.cell? ⟨p, 4, none⟩ = some (.int .i64 0) ∧ wx.cell? ⟨p, 5, none⟩ = some (.int .i64 0) ∧ wx.cell? ⟨p, 6, none⟩ = some (.int .u64 0) ∧ wx.cell? ⟨p, 7, none⟩ = some (.string ⟨#[]⟩) ∧ wx.cell? ⟨p, 8, none⟩ = some (.slice none 0 0) ∧ wx.cell? ⟨p, 9, none⟩ = some (.slice none 0 0) ∧ wx.cell? ⟨p, 10, none⟩ = some (.slice (some ⟨g, 0, none⟩) 1 1)) from fun wx hx => by
    have a := hA.below hx
    exact ⟨a.cell 0 rfl, a.cell 1 rfl, a.cell 2 rfl, a.cell 3 rfl, a.cell 4 rfl, a.cell 5 rfl, a.cell 6 rfl, a.cell 7 rfl, a.cell 8 rfl, a.cell 9 rfl, a.cell 10 rfl⟩)
  have HT := Lib.hid (textW hP)
  have HPL := Lib.hid (fun wx => plain5 wx)
  have HI := Lib.hid (fun (wx : World) (hx : Below w1.heap.size w1 wx) => is16 (hP.below hx))
  have HV := Lib.hid (fun (wx : World) (hx : Below w1.heap.size w1 wx) => validW18 (hP.below hx))
  have c0 := hA.cell 0 rfl; have c1 := hA.cell 1 rfl; have c2 := hA.cell 2 rfl; have c3 := hA.cell 3 rfl; have c4 := hA.cell 4 rfl; have c5 := hA.cell 5 rfl; have c6 := hA.cell 6 rfl; have c7 := hA.cell 7 rfl; have c8 := hA.cell 8 rfl; have c9 := hA.cell 9 rfl; have c10 := hA.cell 10 rfl
  unfold W0 P0 vE Dt.zero at HI
  unfold P0 vE Dt.zero at HPL
  unfold W0 vE Dt.zero at HV
  unfold W0 vE at HT
  clear hP hA hB hp hg
  go_upto_region 3 with (go_at_call 26; (with_reducible refine HT.out.mono ?_); rintro eB wB ⟨rfl, hBB⟩; have HBB := Lib.hid hBB; clear hBB)
  clear c0 c1 c2 c3 c4 c5 c6 c7 c8 c9 c10
  go_region_held3 (fun wx : World => wx.cell? ⟨p, 0, none⟩ = some (.int .i64 3) ∧ wx.cell? ⟨p, 1, none⟩ = some (.int .i64 1) ∧ wx.cell? ⟨p, 2, none⟩ = some (.int .i64 0) ∧ wx.cell? ⟨p, 3, none⟩ = some (.string ⟨#[119]⟩) ∧ wx.cell? ⟨p, 4, none⟩ = some (.int .i64 0) ∧ wx.cell? ⟨p, 5, none⟩ = some (.int .i64 0) ∧ wx.cell? ⟨p, 6, none⟩ = some (.int .u64 0) ∧ wx.cell? ⟨p, 7, none⟩ = some (.string ⟨#[]⟩) ∧ wx.cell? ⟨p, 8, none⟩ = some (.slice none 0 0) ∧ wx.cell? ⟨p, 9, none⟩ = some (.slice none 0 0) ∧ wx.cell? ⟨p, 10, none⟩ = some (.slice (some ⟨g, 0, none⟩) 1 1))
    (first | exact HK.out _ HBB.out | exact HK.out _ HBB.out.drew | exact HK.out _ HB2.out | exact HK.out _ HB3.out)
    (first
      | (go_simp; go_at_call 34; (with_reducible refine (HPL.out _).mono ?_); rintro e2 w2 ⟨rfl, hB⟩; have HB2 := Lib.hid (HBB.out.drew.trans (hB.mono HBB.out.drew.size)); clear hB)
      | (go_simp; go_at_call 16; (with_reducible refine (HI.out _ HB2.out).mono ?_); rintro e3 w3 ⟨rfl, hB⟩; have HB3 := Lib.hid (HB2.out.trans (hB.mono HB2.out.size)); clear hB))
  all_goals
    have hk := HK.out _ HB3.out
    obtain ⟨k0, k1, k2, k3, k4, k5, k6, k7, k8, k9, k10⟩ := hk
    go_wp2_with (go_at_call 18; (with_reducible refine (HV.out _ HB3.out).mono ?_); rintro e4 w4 ⟨rfl, hB⟩; have HB4 := Lib.hid (HB3.out.trans (hB.mono HB3.out.size)); clear hB)
    go_ret
    exact ⟨rfl, HB.out.trans (HB4.out.mono HB.out.size)⟩
end Go.Proofs.YtbldidiibkcelaaGreatDoor

