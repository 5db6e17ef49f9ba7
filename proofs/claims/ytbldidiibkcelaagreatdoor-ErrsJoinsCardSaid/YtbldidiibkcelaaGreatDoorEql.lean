/-
  '==' of two interface values of this program (plain runs). Not a statement of the seat.
-/
import Derived.Test.YtbldidiibkcelaaGreatDoorREqual
import Derived.Stop.Asserts
import Derived.Test.YtbldidiibkcelaaGreatDoorHeldL
import Derived.Recover
import Derived.Test.YtbldidiibkcelaaGreatDoorEFields
namespace Go.Proofs.YtbldidiibkcelaaGreatDoor
open Go.RowKit
theorem q107 (i j : Int) (w : World) : (binOp .eql 20 (.iface 202 (.int .i64 i)) (.iface 202 (.int .i64 j))).run Tryz.prog w = .ok (.bool (i == j)) w := by kernel_rfl
theorem q108 (i j : Int) (w : World) : (binOp .eql 20 (.iface 203 (.int .i64 i)) (.iface 203 (.int .i64 j))).run Tryz.prog w = .ok (.bool (i == j)) w := by kernel_rfl
theorem q109 (b b' : Int) (w : World) : (binOp .eql 20 (.iface 204 (.float .f64 b.toNat)) (.iface 204 (.float .f64 b'.toNat))).run Tryz.prog w = .ok (.bool (feq b b')) w := by kernel_rfl
theorem q110 (t t' : ByteArray) (w : World) : (binOp .eql 20 (.iface 205 (.string t)) (.iface 205 (.string t'))).run Tryz.prog w = .ok (.bool (t == t')) w := by kernel_rfl
theorem q111 (t t' : ByteArray) (w : World) : (binOp .eql 20 (.iface 206 (.string t)) (.iface 206 (.string t'))).run Tryz.prog w = .ok (.bool (t == t')) w := by kernel_rfl
theorem q112 (a b : Bool) (w : World) : (binOp .eql 20 (.iface 207 (.bool a)) (.iface 207 (.bool b))).run Tryz.prog w = .ok (.bool (a == b)) w := by kernel_rfl
theorem q118 (i j : Int) (t t' : ByteArray) (w : World) : (binOp .eql 20 (.iface 213 (.agg #[.int .i64 i, .string t])) (.iface 213 (.agg #[.int .i64 j, .string t']))).run Tryz.prog w = .ok (.bool (i == j && t == t')) w := by
  have h1 : ∀ x y : Value, (binOp .eql 20 (.iface 213 x) (.iface 213 y)).run Tryz.prog w = ((Op.equalIn 9999 213 x y).run Tryz.prog w).andThen fun b w' => .ok (.bool b) w' := by
    intro x y
    have hi : ((Tryz.prog.info? 213).map (fun i => i.comparable)) = some true := by kernel_rfl
    obtain ⟨i0, hi0, hc⟩ := Option.map_eq_some_iff.1 hi
    have h : (Op.equalIn 10000 20 (.iface 213 x) (.iface 213 y)).run Tryz.prog w = (Op.equalIn 9999 213 x y).run Tryz.prog w := by
      generalize hd : (9999 : Nat) = d
      rw [show (10000 : Nat) = d + 1 from by omega]
      conv => lhs; unfold Op.equalIn
      simp [run_underlying Tryz.underlying20, typeInfo, hi0, hc]
    simp only [binOp]
    simp [Op.equal, Op.maxDepth, h]
  have hf : (Tryz.prog.fieldsOf 213).toList = [{ name := "code", type := 2, offset := 0, embedded := false, tag := "", pkgPath := "conduit/datum", byteOffset := 0 }, { name := "words", type := 9, offset := 1, embedded := false, tag := "", pkgPath := "conduit/datum", byteOffset := 8 }] := by kernel_rfl
  have p0 : ∀ (a b : Value), (part 2 #[a, b] 0).run Tryz.prog w = .ok a w := fun a b => by kernel_rfl
  have p1 : ∀ (a b : Value), (part 9 #[a, b] 1).run Tryz.prog w = .ok b w := fun a b => by kernel_rfl
  have e0 : (Op.equalIn 9998 2 (.int .i64 i) (.int .i64 j)).run Tryz.prog w = .ok (i == j) w := by kernel_rfl
  have e1 : (Op.equalIn 9998 9 (.string t) (.string t')).run Tryz.prog w = .ok (t == t') w := by kernel_rfl
  rw [h1, show (9999 : Nat) = 9998 + 1 from rfl, run_equalIn_struct w 9998 213 _ _ (by kernel_rfl) (by kernel_rfl), hf]
  simp only [Op.eqFields, Sem.run_bind, p0, p1, e0, e1, Result.andThen_ok, Sem.run_ite]
  cases i == j <;> cases t == t' <;> simp [Result.andThen_ok]
theorem q119n (w : World) : (binOp .eql 20 (.iface 214 (.pointer none)) (.iface 214 (.pointer none))).run Tryz.prog w = .ok (.bool true) w := by kernel_rfl
theorem q119l (a : Addr) (w : World) : (binOp .eql 20 (.iface 214 (.pointer none)) (.iface 214 (.pointer (some a)))).run Tryz.prog w = .ok (.bool false) w := by kernel_rfl
theorem q119r (a : Addr) (w : World) : (binOp .eql 20 (.iface 214 (.pointer (some a))) (.iface 214 (.pointer none))).run Tryz.prog w = .ok (.bool false) w := by kernel_rfl
theorem q123 (w : World) : (binOp .eql 20 (.iface 218 (.agg #[])) (.iface 218 (.agg #[]))).run Tryz.prog w = .ok (.bool true) w := by kernel_rfl
theorem qnil (w : World) : (binOp .eql 20 .nilIface .nilIface).run Tryz.prog w = .ok (.bool true) w := by kernel_rfl
theorem qnl (t : TypeId) (v : Value) (w : World) : (binOp .eql 20 .nilIface (.iface t v)).run Tryz.prog w = .ok (.bool false) w := by kernel_rfl
theorem qnr (t : TypeId) (v : Value) (w : World) : (binOp .eql 20 (.iface t v) .nilIface).run Tryz.prog w = .ok (.bool false) w := by kernel_rfl
theorem qne (t u : TypeId) (x y : Value) (h : t ≠ u) (w : World) : (binOp .eql 20 (.iface t x) (.iface u y)).run Tryz.prog w = .ok (.bool false) w := run_eql_iface_types t u x y Tryz.underlying20 h w
def isPw (r : Result Value) (w : World) : Prop := match r with | .halt (.panic (.iface _ _)) w' => w' = w | _ => False
theorem isPw.out {r : Result Value} {w : World} (h : isPw r w) : ∃ u v, r = .halt (.panic (.iface u v)) w := by
  unfold isPw at h
  split at h
  · exact ⟨_, _, by rw [h]⟩
  · cases h
theorem isPw.of {r : Result Value} {w : World} (h : isPw r w = (w = w)) : ∃ u v, r = .halt (.panic (.iface u v)) w := by
  rw [eq_self] at h
  exact isPw.out (of_eq_true h)
theorem q113 (x y : Value) (w : World) : ∃ u v, (binOp .eql 20 (.iface 208 x) (.iface 208 y)).run Tryz.prog w = .halt (.panic (.iface u v)) w := by
  have h : isPw ((binOp .eql 20 (.iface 208 x) (.iface 208 y)).run Tryz.prog w) w = (w = w) := by kernel_rfl
  exact isPw.of h
theorem q114 (x y : Value) (w : World) : ∃ u v, (binOp .eql 20 (.iface 210 x) (.iface 210 y)).run Tryz.prog w = .halt (.panic (.iface u v)) w := by
  have h : isPw ((binOp .eql 20 (.iface 210 x) (.iface 210 y)).run Tryz.prog w) w = (w = w) := by kernel_rfl
  exact isPw.of h
theorem ta_no (t : TypeId) (v : Value) (w : World) (h : t ≠ 200) : (Instr.typeAssert (.iface t v) 20 200 true).run Tryz.prog w = .ok (.tuple #[.agg #[.nilIface, .nilIface], .bool false]) w := by
  have hz : (zeroValue 200).run Tryz.prog w = .ok (.agg #[.nilIface, .nilIface]) w := by kernel_rfl
  simp [Instr.typeAssert, run_underlying Tryz.underlying200, h, hz]
theorem ta_nil (w : World) : (Instr.typeAssert .nilIface 20 200 true).run Tryz.prog w = .ok (.tuple #[.agg #[.nilIface, .nilIface], .bool false]) w := by kernel_rfl
theorem ta_yes (v : Value) (w : World) : (Instr.typeAssert (.iface 200 v) 20 200 true).run Tryz.prog w = .ok (.tuple #[v, .bool true]) w := by kernel_rfl

theorem ba_beq (t t' : Bs) : ((⟨t.toArray⟩ : ByteArray) == ⟨t'.toArray⟩) = (t == t') := by
  show (t.toArray == t'.toArray) = _
  simp
theorem q119s (a : Addr) (w : World) : (binOp .eql 20 (.iface 214 (.pointer (some a))) (.iface 214 (.pointer (some a)))).run Tryz.prog w = .ok (.bool true) w := by
  obtain ⟨i, hi, hc⟩ := Option.map_eq_some_iff.1 (show ((Tryz.prog.info? 214).map (fun i => i.comparable)) = some true by kernel_rfl)
  obtain ⟨j, hj, _⟩ := Option.map_eq_some_iff.1 (show ((Tryz.prog.info? 216).map (fun i => i.size)) = some 2 by kernel_rfl)
  exact run_eql_iface_ptr_same w a Tryz.underlying20 Tryz.underlying214 hi hc hj
theorem q119o {a b : Nat} {w : World} (ha : Cl w a) (hb : Cl w b) (hne : a ≠ b) : (binOp .eql 20 (.iface 214 (.pointer (some ⟨a, 0, none⟩))) (.iface 214 (.pointer (some ⟨b, 0, none⟩)))).run Tryz.prog w = .ok (.bool false) w := by
  obtain ⟨i, hi, hc⟩ := Option.map_eq_some_iff.1 (show ((Tryz.prog.info? 214).map (fun i => i.comparable)) = some true by kernel_rfl)
  obtain ⟨j, hj, hs⟩ := Option.map_eq_some_iff.1 (show ((Tryz.prog.info? 216).map (fun i => i.size)) = some 2 by kernel_rfl)
  obtain ⟨ca, ta, ha⟩ := ha
  obtain ⟨cb, tb, hb⟩ := hb
  exact run_eql_iface_ptr_other w Tryz.underlying20 Tryz.underlying214 hi hc hj (by omega) (fun e => hne (by cases e; rfl)) ha hb

/-- the dynamic type of a kind -/
def tagOf (k : Int) : Nat := if k ≤ 7 then (201 + k).toNat else if k = 8 then 210 else if k = 9 then 200 else if k = 10 then 213 else if k = 13 then 218 else 214
theorem vOne.tag {M : BM} {k i b : Int} {t : Bs} {P : List Value → Prop} {x : Value} (h : vOne M k i b t P x) (h1 : 1 ≤ k) (h2 : k ≤ 13) : ∃ v, x = .iface (tagOf k) v := by
  have hk : k = 1 ∨ k = 2 ∨ k = 3 ∨ k = 4 ∨ k = 5 ∨ k = 6 ∨ k = 7 ∨ k = 8 ∨ k = 9 ∨ k = 10 ∨ k = 11 ∨ k = 12 ∨ k = 13 := by omega
  rcases hk with rfl | rfl | rfl | rfl | rfl | rfl | rfl | rfl | rfl | rfl | rfl | rfl | rfl <;> simp [vOne] at h
  · exact ⟨_, h⟩
  · exact ⟨_, h⟩
  · exact ⟨_, h⟩
  · exact ⟨_, h⟩
  · exact ⟨_, h⟩
  · exact ⟨_, h⟩
  · obtain ⟨_, _, _, h⟩ := h; exact ⟨_, h⟩
  · obtain ⟨_, _, _, h⟩ := h; exact ⟨_, h⟩
  · obtain ⟨_, _, _, h⟩ := h; exact ⟨_, h⟩
  · exact ⟨_, h⟩
  · obtain ⟨_, _, h⟩ := h; exact ⟨_, h⟩
  · exact ⟨_, h⟩
  · exact ⟨_, h⟩
theorem tag_inj {k k' : Int} (h1 : 1 ≤ k) (h2 : k ≤ 13) (h3 : 1 ≤ k') (h4 : k' ≤ 13) (e : tagOf k = tagOf k') : k = k' ∨ (k = 11 ∧ k' = 12) ∨ (k = 12 ∧ k' = 11) := by
  unfold tagOf at e
  repeat' split at e
  all_goals omega
theorem fits_k {k i b : Int} {t : Bs} {n : Nat} (h : fitsM k i b t n = true) : 0 ≤ k ∧ k ≤ 13 := by
  simp only [fitsM, Bool.and_eq_true, decide_eq_true_eq] at h
  exact h.1.1.1.1.1.1.1

/-- '==' of two values that are not both pairs -/
theorem eq_run {M : BM} {mb : Nat} {k i b k' i' b' : Int} {t t' : Bs} {n n' : Nat} {P P' : List Value → Prop} {x y : Value} {w : World} (hB : BxM M mb w) (hx : vOne M k i b t P x) (hy : vOne M k' i' b' t' P' y)
    (h9 : ¬ (k = 9 ∧ k' = 9)) (hf : fitsM k i b t n = true) (hf' : fitsM k' i' b' t' n' = true) (pp : Bool × Int) :
    ((eqOne k i b t k' i' b' t' pp).2 = 0 ∧ (binOp .eql 20 x y).run Tryz.prog w = .ok (.bool (eqOne k i b t k' i' b' t' pp).1) w) ∨ (eqOne k i b t k' i' b' t' pp = (false, 10) ∧ ∃ u v, (binOp .eql 20 x y).run Tryz.prog w = .halt (.panic (.iface u v)) w) := by
  obtain ⟨h0, h13⟩ := fits_k hf
  obtain ⟨h0', h13'⟩ := fits_k hf'
  by_cases hk : k = k'
  · subst hk
    have hk : k = 0 ∨ k = 1 ∨ k = 2 ∨ k = 3 ∨ k = 4 ∨ k = 5 ∨ k = 6 ∨ k = 7 ∨ k = 8 ∨ k = 10 ∨ k = 11 ∨ k = 12 ∨ k = 13 := by omega
    rcases hk with rfl | rfl | rfl | rfl | rfl | rfl | rfl | rfl | rfl | rfl | rfl | rfl | rfl <;> simp [vOne] at hx hy <;> simp [fitsM] at hf hf'
    · subst hx; subst hy
      refine .inl ⟨rfl, ?_⟩
      rw [qnil]; simp [eqOne, hf, hf']
    · subst hx; subst hy
      refine .inl ⟨rfl, ?_⟩
      rw [q107]; simp [eqOne, hf, hf']
    · subst hx; subst hy
      refine .inl ⟨rfl, ?_⟩
      rw [q108]; simp [eqOne, hf, hf']
    · subst hx; subst hy
      refine .inl ⟨rfl, ?_⟩
      rw [q109]; simp [eqOne]
    · subst hx; subst hy
      refine .inl ⟨rfl, ?_⟩
      rw [q110, ba_beq]; simp [eqOne, hf, hf']
    · subst hx; subst hy
      refine .inl ⟨rfl, ?_⟩
      rw [q111, ba_beq]; simp [eqOne, hf, hf']
    · subst hx; subst hy
      refine .inl ⟨rfl, ?_⟩
      rw [q112]; simp [eqOne, hf, hf']
      rcases hf.1.1.1.1 with rfl | rfl <;> rcases hf'.1.1.1.1 with rfl | rfl <;> rfl
    · obtain ⟨_, _, _, rfl⟩ := hx
      obtain ⟨_, _, _, rfl⟩ := hy
      exact .inr ⟨rfl, q113 _ _ w⟩
    · obtain ⟨_, _, _, rfl⟩ := hx
      obtain ⟨_, _, _, rfl⟩ := hy
      exact .inr ⟨rfl, q114 _ _ w⟩
    · subst hx; subst hy
      refine .inl ⟨rfl, ?_⟩
      rw [q118, ba_beq]; simp [eqOne]
    · obtain ⟨b1, h1, rfl⟩ := hx
      obtain ⟨b2, h2, rfl⟩ := hy
      refine .inl ⟨rfl, ?_⟩
      have ho := hB.one h1 h2
      simp only at ho
      by_cases e : b1 = b2
      · subst e
        rw [q119s]; simp [eqOne, hf, hf', ho.2 rfl]
      · rw [q119o (hB.cl _ h1) (hB.cl _ h2) e]
        have hne : ¬ i = i' := fun h => e (ho.1 h)
        simp [eqOne, hf, hf', hne]
    · subst hx; subst hy
      refine .inl ⟨rfl, ?_⟩
      rw [q119n]; simp [eqOne, hf, hf']
    · subst hx; subst hy
      refine .inl ⟨rfl, ?_⟩
      rw [q123]; simp [eqOne, hf, hf']
  · refine .inl ⟨by simp [eqOne, hk], ?_⟩
    have hr : (eqOne k i b t k' i' b' t' pp).1 = false := by simp [eqOne, hk]
    rw [hr]
    by_cases hk0 : k = 0
    · subst hk0
      obtain ⟨v, rfl⟩ := hy.tag (by omega) h13'
      simp [vOne] at hx
      subst hx
      exact qnl _ _ w
    by_cases hk0' : k' = 0
    · subst hk0'
      obtain ⟨v, rfl⟩ := hx.tag (by omega) h13
      simp [vOne] at hy
      subst hy
      exact qnr _ _ w
    by_cases h1 : k = 11 ∧ k' = 12
    · obtain ⟨rfl, rfl⟩ := h1
      simp [vOne] at hx hy
      obtain ⟨_, _, rfl⟩ := hx
      subst hy
      exact q119r _ w
    by_cases h2 : k = 12 ∧ k' = 11
    · obtain ⟨rfl, rfl⟩ := h2
      simp [vOne] at hx hy
      obtain ⟨_, _, rfl⟩ := hy
      subst hx
      exact q119l _ w
    obtain ⟨v, rfl⟩ := hx.tag (by omega) h13
    obtain ⟨u, rfl⟩ := hy.tag (by omega) h13'
    refine qne _ _ _ _ (fun e => ?_) w
    have := tag_inj (by omega) h13 (by omega) h13' e
    omega
end Go.Proofs.YtbldidiibkcelaaGreatDoor

/-
  equal (walk). Not a statement of the seat.
-/
namespace Go.Proofs.YtbldidiibkcelaaGreatDoor
open Go.RowKit

/-- what equal comes to -/
def EQP (r : Bool × Int) (w : World) (e : Ending) (w' : World) : Prop :=
  Below w.heap.size w w' ∧ ((r.2 = 0 ∧ e = .returned (.bool r.1)) ∨ (r = (false, 10) ∧ ∃ u v, e = .panicked [{ v := .iface u v, recovered := false }]))
def EQK (kids : Fo) : Prop := ∀ (g : Fo) (k i b k' i' b' : Int) (t t' : Bs) (x y : Value) (M : BM) (mb : Nat) (w : World), BxM M mb w → vOne M k i b t (ValF M kids) x → vOne M k' i' b' t' (ValF M g) y →
  fitsM k i b t kids.len = true → rightM kids = true → fitsM k' i' b' t' g.len = true → rightM g = true →
  Calls Tryz.prog 102 #[x, y] w (EQP (eqOne k i b t k' i' b' t' (eqF kids g)) w)

theorem tag_ne {k : Int} (h1 : 1 ≤ k) (h2 : k ≤ 13) (h9 : k ≠ 9) : tagOf k ≠ 200 := by
  intro e
  unfold tagOf at e
  repeat' split at e
  all_goals omega
theorem EQP.t {w w' : World} {e : Ending} (h : EQP (true, 0) w e w') : e = .returned (.bool true) ∧ Below w.heap.size w w' := by
  rcases h with ⟨h, ⟨_, h1⟩ | ⟨h1, _⟩⟩
  · exact ⟨h1, h⟩
  · exact absurd h1 (by decide)
theorem EQP.f {w w' : World} {e : Ending} (h : EQP (false, 0) w e w') : e = .returned (.bool false) ∧ Below w.heap.size w w' := by
  rcases h with ⟨h, ⟨_, h1⟩ | ⟨h1, _⟩⟩
  · exact ⟨h1, h⟩
  · exact absurd h1 (by decide)
theorem EQP.p {w w' : World} {e : Ending} (h : EQP (false, 10) w e w') : (∃ u v, e = .panicked [{ v := .iface u v, recovered := false }]) ∧ Below w.heap.size w w' := by
  rcases h with ⟨h, ⟨h1, _⟩ | ⟨_, h1⟩⟩
  · exact absurd h1 (by decide)
  · exact ⟨h1, h⟩

theorem vOne.pair {M : BM} {k i b : Int} {t : Bs} {f : Fo} {x : Value} (h : vOne M k i b t (ValF M f) x) : ∃ z1 z2 ok, (∀ w, (Instr.typeAssert x 20 200 true).run Tryz.prog w = .ok (.tuple #[.agg #[z1, z2], .bool ok]) w) ∧ z1.oneCell' = true ∧ z2.oneCell' = true ∧
    ((ok = true ∧ k = 9 ∧ ValF M f [z1, z2]) ∨ (ok = false ∧ k ≠ 9)) := by
  by_cases h9 : k = 9
  · subst h9
    simp only [vOne] at h
    obtain ⟨x1, x2, hv, rfl⟩ := h
    obtain ⟨_, _, _, _, _, _, _, _, _, _, rfl, a1, a2⟩ := hv.two
    exact ⟨x1, x2, true, fun w => ta_yes _ w, a1.one, a2.one, .inl ⟨rfl, rfl, hv⟩⟩
  · refine ⟨.nilIface, .nilIface, false, ?_, rfl, rfl, .inr ⟨rfl, h9⟩⟩
    intro w
    by_cases hk : k ≤ 0 ∨ 14 ≤ k
    · rw [vOne_nil hk h]
      exact ta_nil w
    · obtain ⟨v, rfl⟩ := h.tag (by omega) (by omega)
      exact ta_no _ _ w (tag_ne (by omega) (by omega) h9)

theorem guard20 {x y : Value} (hx : x = .nilIface ∨ ∃ u v, x = .iface u v) (hy : y = .nilIface ∨ ∃ u v, y = .iface u v) (w : World) : (eqGuard .eql 20 (.tmp 35) (.tmp 36) x y).run Tryz.prog w = .ok () w := by
  rcases hx with rfl | ⟨_, _, rfl⟩ <;> rcases hy with rfl | ⟨_, _, rfl⟩ <;> kernel_rfl

/-- the two pairs in their boxes -/
def pw2 (w : World) (x1 x2 y1 y2 : Value) : World := (w.alloc (.cells #[x1, x2] 200)).alloc (.cells #[y1, y2] 200)
theorem pw2_facts (w : World) (x1 x2 y1 y2 : Value) : (Blk (pw2 w x1 x2 y1 y2) w.heap.size [x1, x2] ∧ Blk (pw2 w x1 x2 y1 y2) (w.heap.size + 1) [y1, y2]) ∧ Below w.heap.size w (pw2 w x1 x2 y1 y2) := by
  have hs : (w.alloc (.cells #[x1, x2] 200)).heap.size = w.heap.size + 1 := by simp
  have hN := Blk.new (w.alloc (.cells #[x1, x2] 200)) #[y1, y2] 200
  rw [hs] at hN
  exact ⟨⟨(Blk.new w #[x1, x2] 200).alloc _, hN⟩, ((Below.refl _ w).alloc (Nat.le_refl _) _).alloc (by simp) _⟩

set_option maxHeartbeats 8000000 in
set_option maxRecDepth 100000 in
theorem eqN {kids : Fo} (hall : kids.All EQK) : EQK kids := by
  intro g k i b k' i' b' t t' x y M mb w hB hx hy hf hr hf' hr'
  obtain ⟨z1, z2, ok, hta, ho1, ho2, hz⟩ := hx.pair
  obtain ⟨u1, u2, too, htb, hp1, hp2, hu⟩ := hy.pair
  obtain ⟨⟨hA, hA'⟩, hW⟩ := pw2_facts w z1 z2 u1 u2
  have hs1 : ∀ (a : Addr) (w' : World), (store a z1).run Tryz.prog w' = stored Tryz.prog w' a z1 .plain := fun a w' => run_store _ _ _ _ _ ho1
  have hs2 : ∀ (a : Addr) (w' : World), (store a z2).run Tryz.prog w' = stored Tryz.prog w' a z2 .plain := fun a w' => run_store _ _ _ _ _ ho2
  have hs3 : ∀ (a : Addr) (w' : World), (store a u1).run Tryz.prog w' = stored Tryz.prog w' a u1 .plain := fun a w' => run_store _ _ _ _ _ hp1
  have hs4 : ∀ (a : Addr) (w' : World), (store a u2).run Tryz.prog w' = stored Tryz.prog w' a u2 .plain := fun a w' => run_store _ _ _ _ _ hp2
  have HB := Lib.hid (hB.below hW)
  have HX := Lib.hid (And.intro hx hy)
  have HZ := Lib.hid (And.intro hz hu)
  have HF := Lib.hid (And.intro (And.intro hf hr) (And.intro hf' hr'))
  have HALL := Lib.hid hall
  have HW := Lib.hid hW
  have HA := Lib.hid hA
  have HA' := Lib.hid hA'
  clear hB hx hy hz hu hf hr hf' hr' hall hW hA hA' ho1 ho2 hp1 hp2
  go_enter Tryz.func102, Tryz.ntmps102
  go_upto_region 3 with (fail)
  change Code.wp _ _ _ _ (pw2 w z1 z2 u1 u2)
  generalize pw2 w z1 z2 u1 u2 = w3 at *
  clear hta htb hs1 hs2 hs3 hs4
  have a0 := HA.out.cell 0 rfl
  have a1 := HA.out.cell 1 rfl
  have b0 := HA'.out.cell 0 rfl
  have b1 := HA'.out.cell 1 rfl
  by_cases h99 : ok = true ∧ too = true
  · obtain ⟨rfl, rfl⟩ := h99
    have hz := HZ.out
    simp only [true_and, Bool.true_eq_false, false_and, or_false] at hz
    obtain ⟨⟨rfl, hv⟩, rfl, hv'⟩ := hz
    obtain ⟨k1, i1, c1, t1, ks1, k2, i2, c2, t2, ks2, rfl, v1, v2⟩ := hv.two
    obtain ⟨k3, i3, c3, t3, ks3, k4, i4, c4, t4, ks4, rfl, v3, v4⟩ := hv'.two
    have hr := HF.out.1.2
    have hr' := HF.out.2.2
    have hal := HALL.out
    simp only [rightM, Bool.and_eq_true] at hr hr'
    have HC1 := Lib.hid (fun (wx : World) (hx : Below w3.heap.size w3 wx) => hal.1 ks3 k1 i1 c1 k3 i3 c3 t1 t3 z1 u1 M mb wx (HB.out.below hx) v1 v3 hr.1.1 hr.1.2 hr'.1.1 hr'.1.2)
    have HC2 := Lib.hid (fun (wx : World) (hx : Below w3.heap.size w3 wx) => hal.2.1 ks4 k2 i2 c2 k4 i4 c4 t2 t4 z2 u2 M mb wx (HB.out.below hx) v2 v4 hr.2.1.1 hr.2.1.2 hr'.2.1.1 hr'.2.1.2)
    have hpp : eqF (.cons k1 i1 c1 t1 ks1 (.cons k2 i2 c2 t2 ks2 .nil)) (.cons k3 i3 c3 t3 ks3 (.cons k4 i4 c4 t4 ks4 .nil)) = if (eqOne k1 i1 c1 t1 k3 i3 c3 t3 (eqF ks1 ks3)).1 then eqOne k2 i2 c2 t2 k4 i4 c4 t4 (eqF ks2 ks4) else eqOne k1 i1 c1 t1 k3 i3 c3 t3 (eqF ks1 ks3) := by
      simp only [eqF]
      exact nrm_two (eqOne_nrm (eqF_nrm ks2 ks4))
    have hN := eqOne_nrm (k := k1) (i := i1) (b := c1) (t := t1) (k' := k3) (i' := i3) (b' := c3) (t' := t3) (eqF_nrm ks1 ks3)
    have hN2 := eqOne_nrm (k := k2) (i := i2) (b := c2) (t := t2) (k' := k4) (i' := i4) (b' := c4) (t' := t4) (eqF_nrm ks2 ks4)
    generalize eqOne k1 i1 c1 t1 k3 i3 c3 t3 (eqF ks1 ks3) = r1 at *
    generalize eqOne k2 i2 c2 t2 k4 i4 c4 t4 (eqF ks2 ks4) = r2 at *
    have HPP := Lib.hid hpp
    clear hpp hv hv' v1 v2 v3 v4 hr hr' hal HALL HF HX HZ
    have hfin : ∀ (e : Ending) (w' : World), Below w3.heap.size w3 w' → ((if r1.1 then r2 else r1).2 = 0 ∧ e = .returned (.bool (if r1.1 then r2 else r1).1)) ∨ ((if r1.1 then r2 else r1) = (false, 10) ∧ ∃ u v, e = .panicked [{ v := .iface u v, recovered := false }]) →
        EQP (eqOne 9 i b t 9 i' b' t' (eqF (.cons k1 i1 c1 t1 ks1 (.cons k2 i2 c2 t2 ks2 .nil)) (.cons k3 i3 c3 t3 ks3 (.cons k4 i4 c4 t4 ks4 .nil)))) w e w' := by
      intro e w' hb h
      rw [HPP.out]
      refine ⟨HW.out.trans (hb.mono HW.out.size), ?_⟩
      simpa [eqOne] using h
    have HFIN := Lib.hid hfin
    clear hfin HPP
    rcases hN with rfl | rfl | rfl
    · rcases hN2 with rfl | rfl | rfl
      · go_wp2_with (first | (go_at_call 102; (with_reducible refine (HC1.out _ (Below.refl _ _)).mono ?_); intro e1 v1 hc1; obtain ⟨rfl, hb1⟩ := EQP.t hc1; clear hc1; have HB1 := Lib.hid hb1; have a1' := cellAt hb1 a1; have b1' := cellAt hb1 b1; clear hb1) | (go_at_call 102; (with_reducible refine (HC2.out _ (HB1.out)).mono ?_); intro e2 v2 hc2; obtain ⟨rfl, hb2⟩ := EQP.t hc2; clear hc2; have HB2 := Lib.hid hb2; clear hb2))
        go_ret
        exact HFIN.out _ _ (HB1.out.trans (HB2.out.mono HB1.out.size)) (.inl ⟨rfl, rfl⟩)
      · go_wp2_with (first | (go_at_call 102; (with_reducible refine (HC1.out _ (Below.refl _ _)).mono ?_); intro e1 v1 hc1; obtain ⟨rfl, hb1⟩ := EQP.t hc1; clear hc1; have HB1 := Lib.hid hb1; have a1' := cellAt hb1 a1; have b1' := cellAt hb1 b1; clear hb1) | (go_at_call 102; (with_reducible refine (HC2.out _ (HB1.out)).mono ?_); intro e2 v2 hc2; obtain ⟨rfl, hb2⟩ := EQP.f hc2; clear hc2; have HB2 := Lib.hid hb2; clear hb2))
        go_ret
        exact HFIN.out _ _ (HB1.out.trans (HB2.out.mono HB1.out.size)) (.inl ⟨rfl, rfl⟩)
      · go_wp2_with (first | (go_at_call 102; (with_reducible refine (HC1.out _ (Below.refl _ _)).mono ?_); intro e1 v1 hc1; obtain ⟨rfl, hb1⟩ := EQP.t hc1; clear hc1; have HB1 := Lib.hid hb1; have a1' := cellAt hb1 a1; have b1' := cellAt hb1 b1; clear hb1) | (go_at_call 102; (with_reducible refine (HC2.out _ (HB1.out)).mono ?_); intro e2 v2 hc2; obtain ⟨⟨pu2, pv2, rfl⟩, hb2⟩ := EQP.p hc2; clear hc2; have HB2 := Lib.hid hb2; clear hb2))
        exact ⟨rfl, HFIN.out _ _ (HB1.out.trans (HB2.out.mono HB1.out.size)) (.inr ⟨rfl, _, _, rfl⟩)⟩
    · go_wp2_with (go_at_call 102; (with_reducible refine (HC1.out _ (Below.refl _ _)).mono ?_); intro e1 v1 hc1; obtain ⟨rfl, hb1⟩ := EQP.f hc1; clear hc1; have HB1 := Lib.hid hb1; have a1' := cellAt hb1 a1; have b1' := cellAt hb1 b1; clear hb1)
      go_ret
      exact HFIN.out _ _ HB1.out (.inl ⟨rfl, rfl⟩)
    · go_wp2_with (go_at_call 102; (with_reducible refine (HC1.out _ (Below.refl _ _)).mono ?_); intro e1 v1 hc1; obtain ⟨⟨pu1, pv1, rfl⟩, hb1⟩ := EQP.p hc1; clear hc1; have HB1 := Lib.hid hb1; have a1' := cellAt hb1 a1; have b1' := cellAt hb1 b1; clear hb1)
      exact ⟨rfl, HFIN.out _ _ HB1.out (.inr ⟨rfl, _, _, rfl⟩)⟩
  · have h9 : ¬ (k = 9 ∧ k' = 9) := by
      intro h
      refine h99 ⟨?_, ?_⟩
      · rcases HZ.out.1 with h1 | h1
        · exact h1.1
        · exact absurd h.1 h1.2
      · rcases HZ.out.2 with h1 | h1
        · exact h1.1
        · exact absurd h.2 h1.2
    have hq := eq_run HB.out HX.out.1 HX.out.2 h9 HF.out.1.1 HF.out.2.1 (eqF kids g)
    generalize eqOne k i b t k' i' b' t' (eqF kids g) = rr at *
    clear h9 a0 a1 b0 b1
    have hg := guard20 HX.out.1.iface HX.out.2.iface w3
    rcases hq with ⟨h1, hrun⟩ | ⟨h1, pu, pv, hrun⟩
    · have H1 := Lib.hid h1
      clear h1
      cases ok
      · go_wp2_with fail
        go_ret
        exact ⟨HW.out, .inl ⟨H1.out, rfl⟩⟩
      · cases too
        · go_wp2_with fail
          go_ret
          exact ⟨HW.out, .inl ⟨H1.out, rfl⟩⟩
        · exact absurd ⟨rfl, rfl⟩ h99
    · have H1 := Lib.hid h1
      clear h1
      cases ok
      · go_wp2_with fail
        exact ⟨rfl, HW.out, .inr ⟨H1.out, _, _, rfl⟩⟩
      · cases too
        · go_wp2_with fail
          exact ⟨rfl, HW.out, .inr ⟨H1.out, _, _, rfl⟩⟩
        · exact absurd ⟨rfl, rfl⟩ h99
theorem eqAll : ∀ f : Fo, f.All EQK
  | .nil => trivial
  | .cons _ _ _ _ kids rest => ⟨eqN (eqAll kids), eqAll rest⟩
theorem eqG (kids : Fo) : EQK kids := eqN (eqAll kids)
end Go.Proofs.YtbldidiibkcelaaGreatDoor

/-
  Equal (walk). Not a statement of the seat.
-/
namespace Go.Proofs.YtbldidiibkcelaaGreatDoor
open Go.RowKit

theorem catch_p {p q : Addr} {x : Bool} {y : Int} (u : TypeId) (pv : Value) (older : List PanicEntry) {w : World} (hc : w.cell? p = some (.bool x)) (hz : w.frozen? p = false) (hd : w.cell? q = some (.int .i64 y)) (hy : w.frozen? q = false) (hne : p.block ≠ q.block) :
    CallsD Tryz.prog 101 #[.pointer (some p), .pointer (some q)] (.panicking ({ v := .iface u pv, recovered := false } :: older)) w fun e u' w' =>
      e = .returned (.tuple #[]) ∧ u' = .panicking ({ v := .iface u pv, recovered := true } :: older) ∧ w' = (w.setCell p (.bool false)).setCell q (.int .i64 10) := by
  have hd' : (w.setCell p (.bool false)).cell? q = some (.int .i64 y) := by rw [World.cell?_setCell_other (h := fun e => hne (by rw [e]))]; exact hd
  refine callsD_of_wpS Tryz.func101 rfl fun c₀ cs hu => ?_
  apply wpS_seq
  apply wpS_region
  simp [wpOpsS, go_sem, recoverD, hu, Tryz.ntmps101, Exit.thenS]
  refine wpS_cond (t := true) (by simp [Act.eval, Array.replicate]) ?_
  simp only [if_true]
  apply wpS_region
  simp [wpOpsS, go_sem, hc, hz, hd', hy, bodyPostS, results, Tryz.results101]

theorem catch_idle (p q : Addr) (w : World) :
    CallsD Tryz.prog 101 #[.pointer (some p), .pointer (some q)] .returning w fun e u' w' => e = .returned (.tuple #[]) ∧ u' = .returning ∧ w' = w := by
  refine callsD_of_wpS Tryz.func101 rfl fun c₀ cs hu => ?_
  apply wpS_seq
  apply wpS_region
  simp [wpOpsS, go_sem, recoverD, hu, Tryz.ntmps101, Exit.thenS]
  refine wpS_cond (t := false) (by simp [Act.eval, Array.replicate]) ?_
  simp only [Bool.false_eq_true, if_false]
  refine wpS_of_wp (wp_skip ?_)
  cases c₀
  simp_all [bodyPostS, results, Tryz.results101]

/-- what Equal comes to -/
def EUP (r : Bool × Int) (w : World) (e : Ending) (w' : World) : Prop := e = .returned (.tuple #[.bool r.1, .int .i64 r.2]) ∧ Below w.heap.size w w'
/-- the blocks that Equal lays first -/
def ew (w : World) (v1 v2 : List Value) : World :=
  ((((w.alloc (.cells v1.toArray 25)).alloc (.cells v2.toArray 25)).alloc (.cells #[.bool false] 4)).alloc (.cells #[.int .i64 0] 32)).alloc (.map #[] 0)
theorem ew_facts (w : World) (v1 v2 : List Value) : (Blk (ew w v1 v2) w.heap.size v1 ∧ Blk (ew w v1 v2) (w.heap.size + 1) v2 ∧ Blk (ew w v1 v2) (w.heap.size + 1 + 1) [.bool false] ∧ Blk (ew w v1 v2) (w.heap.size + 1 + 1 + 1) [.int .i64 0]) ∧
    BxM [] (w.heap.size + 1 + 1 + 1 + 1) (ew w v1 v2) ∧ Below w.heap.size w (ew w v1 v2) ∧ (ew w v1 v2).heap.size = w.heap.size + 5 := by
  have e1 : (w.alloc (.cells v1.toArray 25)).heap.size = w.heap.size + 1 := by simp
  have e2 : ((w.alloc (.cells v1.toArray 25)).alloc (.cells v2.toArray 25)).heap.size = w.heap.size + 1 + 1 := by simp
  have e3 : (((w.alloc (.cells v1.toArray 25)).alloc (.cells v2.toArray 25)).alloc (.cells #[.bool false] 4)).heap.size = w.heap.size + 1 + 1 + 1 := by simp
  have e4 : ((((w.alloc (.cells v1.toArray 25)).alloc (.cells v2.toArray 25)).alloc (.cells #[.bool false] 4)).alloc (.cells #[.int .i64 0] 32)).heap.size = w.heap.size + 1 + 1 + 1 + 1 := by simp
  have n1 := Blk.new w v1.toArray 25
  have n2 := Blk.new (w.alloc (.cells v1.toArray 25)) v2.toArray 25
  have n3 := Blk.new ((w.alloc (.cells v1.toArray 25)).alloc (.cells v2.toArray 25)) #[.bool false] 4
  have n4 := Blk.new (((w.alloc (.cells v1.toArray 25)).alloc (.cells v2.toArray 25)).alloc (.cells #[.bool false] 4)) #[.int .i64 0] 32
  have n5 := BxM.new ((((w.alloc (.cells v1.toArray 25)).alloc (.cells v2.toArray 25)).alloc (.cells #[.bool false] 4)).alloc (.cells #[.int .i64 0] 32))
  rw [e1] at n2
  rw [e2] at n3
  rw [e3] at n4
  rw [e4] at n5
  refine ⟨⟨?_, ?_, (n3.alloc _).alloc _, n4.alloc _⟩, n5, ?_, by simp [ew]⟩
  · simpa [ew] using (((n1.alloc (.cells v2.toArray 25)).alloc (.cells #[.bool false] 4)).alloc (.cells #[.int .i64 0] 32)).alloc (.map #[] 0)
  · simpa [ew] using ((n2.alloc (.cells #[.bool false] 4)).alloc (.cells #[.int .i64 0] 32)).alloc (.map #[] 0)
  · exact (((((Below.refl _ w).alloc (Nat.le_refl _) _).alloc (by rw [e1]; omega) _).alloc (by rw [e2]; omega) _).alloc (by rw [e3]; omega) _).alloc (by rw [e4]; omega) _

theorem leaves_congr {P : Program} {fn : Func} {t t' : Array Value} {R : Ending → World → Prop} (h : results fn t = results fn t') : ∀ (ds : List Deferred) (u : FrameMode) (w : World), Leaves P fn t R ds u w → Leaves P fn t' R ds u w
  | [], .returning, w, h1 => by
    obtain ⟨v, hv, hr⟩ := h1
    exact ⟨v, by rw [← h]; exact hv, hr⟩
  | [], .panicking _, _, h1 => h1
  | [], .run, _, h1 => h1
  | d :: ds, u, w, h1 => by
    obtain ⟨hu, fv, cap, f, args, h2, h3, h4⟩ := h1
    refine ⟨hu, fv, cap, f, args, h2, h3, h4.mono ?_⟩
    intro e u' w' h5
    cases e with
    | returned v => exact leaves_congr h ds _ _ h5
    | panicked c => exact leaves_congr h ds _ _ h5
    | outgrown => exact h5

theorem e_res {tmps : Array Value} {w : World} {is er : Nat} {x : Bool} {y : Int} (h4 : tmps.getD 4 undef = .pointer (some ⟨is, 0, none⟩)) (h5 : tmps.getD 5 undef = .pointer (some ⟨er, 0, none⟩)) (hi : Blk w is [.bool x]) (he : Blk w er [.int .i64 y]) :
    (results Tryz.f80 tmps).run Tryz.prog w = .ok (.tuple #[.bool x, .int .i64 y]) w := by
  have c0 := hi.cell 0 rfl
  have c1 := he.cell 0 rfl
  have h4' : tmps[4]?.getD undef = .pointer (some ⟨is, 0, none⟩) := by simpa using h4
  have h5' : tmps[5]?.getD undef = .pointer (some ⟨er, 0, none⟩) := by simpa using h5
  simp [results, Tryz.results80, go_sem, h4', h5', c0, c1]
theorem e_below {w w1 wC : World} {mb is er p q : Nat} (hB : Below w.heap.size w w1) (hK : Kept (NB [] mb) w1 wC)
    (hA : (p = w.heap.size ∧ q = w.heap.size + 1) ∧ is = w.heap.size + 2 ∧ er = w.heap.size + 3 ∧ mb = w.heap.size + 4 ∧ w1.heap.size = w.heap.size + 5) (u v : Value) :
    Below w.heap.size w ((wC.setCell ⟨is, 0, none⟩ u).setCell ⟨er, 0, none⟩ v) := by
  refine hB.trans ?_
  have h1 : Kept (fun x => w.heap.size ≤ x) w1 wC := hK.mono (fun x _ h => by
    rcases h with h | ⟨_, h, _⟩
    · omega
    · cases h)
  exact ((h1.put (p := ⟨is, 0, none⟩) u (fun _ => by show w.heap.size ≤ is; omega)).put (p := ⟨er, 0, none⟩) v (fun _ => by show w.heap.size ≤ er; omega)).below (by omega) (fun x hx h => by omega)
theorem res29 (tmps : Array Value) {j : Nat} (v : Value) (h4 : j ≠ 4) (h5 : j ≠ 5) : results Tryz.f80 (tmps.setIfInBounds j v) = results Tryz.f80 tmps := by
  simp [results, Tryz.results80, Array.getElem?_setIfInBounds, h4, h5]
theorem q29 {R : Ending → World → Prop} {j : Nat} {v : Value} {c : List PanicEntry} {a : Act} {w : World} (h4 : j ≠ 4) (h5 : j ≠ 5) (h : bodyPostD Tryz.prog Tryz.f80 R (.panic c) (a.put (some j) v) w) : bodyPostD Tryz.prog Tryz.f80 R (.panic c) a w :=
  leaves_congr (res29 a.tmps v h4 h5) _ _ _ h

set_option maxHeartbeats 8000000 in
set_option maxRecDepth 100000 in
theorem equalN {kids g : Fo} {k i b k' i' b' : Int} {t t' : Bs} {l l' : Option Addr} {n c n' c' : Nat} {S : Nat → Prop} {w : World} (hF : FoAt S w kids l n c) (hG : FoAt S w g l' n' c') (hS : ∀ x, S x → x < w.heap.size)
    (hf : fitsM k i b t kids.len = true) (hr : rightM kids = true) (hf' : fitsM k' i' b' t' g.len = true) (hr' : rightM g = true) (hs : sizeF kids ≤ 100000) (hs' : sizeF g ≤ 100000) :
    Calls Tryz.prog 80 #[.agg #[.int .i64 k, .int .i64 i, .int .u64 b, .string ⟨t.toArray⟩, .slice l n c], .agg #[.int .i64 k', .int .i64 i', .int .u64 b', .string ⟨t'.toArray⟩, .slice l' n' c']] w (EUP (eqOne k i b t k' i' b' t' (eqF kids g)) w) := by
  obtain ⟨⟨hA, hA', hI, hE⟩, hM, hB, hz⟩ := ew_facts w (V5 k i b ⟨t.toArray⟩ l n c) (V5 k' i' b' ⟨t'.toArray⟩ l' n' c')
  have hmf : ∀ (fn : Fn) (first cap : Array Value) (w : World), (Instr.makeFunc fn first cap).run Tryz.prog w = .ok (.func fn first cap) w := fun _ _ _ _ => rfl
  have hmk : ∀ w : World, (Instr.makeMap 176 none).run Tryz.prog w = .ok (.map (some w.heap.size)) (w.alloc (.map #[] 0)) := fun _ => by kernel_rfl
  have HFG := Lib.hid (And.intro hF hG)
  have HS := Lib.hid hS
  have HR := Lib.hid (And.intro (And.intro hf hr) (And.intro hf' hr'))
  have HSZ := Lib.hid (And.intro hs hs')
  have HM := Lib.hid hM
  have HB := Lib.hid hB
  have HZ := Lib.hid hz
  clear hF hG hS hf hr hf' hr' hs hs' hM hB hz
  go_enter_defers Tryz.func80, Tryz.ntmps80
  go_upto_region 3 with (fail)
  change Code.wp _ _ _ _ (ew w (V5 k i b ⟨t.toArray⟩ l n c) (V5 k' i' b' ⟨t'.toArray⟩ l' n' c'))
  generalize ew w (V5 k i b ⟨t.toArray⟩ l n c) (V5 k' i' b' ⟨t'.toArray⟩ l' n' c') = w1 at *
  clear hmf hmk
  obtain ⟨mb, hmb⟩ : ∃ x, x = w.heap.size + 1 + 1 + 1 + 1 := ⟨_, rfl⟩
  obtain ⟨er, her⟩ : ∃ x, x = w.heap.size + 1 + 1 + 1 := ⟨_, rfl⟩
  obtain ⟨is, his⟩ : ∃ x, x = w.heap.size + 1 + 1 := ⟨_, rfl⟩
  obtain ⟨q, hq⟩ : ∃ x, x = w.heap.size + 1 := ⟨_, rfl⟩
  obtain ⟨p, hp⟩ : ∃ x, x = w.heap.size := ⟨_, rfl⟩
  rw [← hmb] at HM
  rw [← his] at hI
  rw [← her] at hE
  rw [← hq] at hA'
  rw [← hp] at hA
  rw [← hmb, ← her, ← his, ← hq, ← hp]
  have HAD := Lib.hid (show (p = w.heap.size ∧ q = w.heap.size + 1) ∧ is = w.heap.size + 2 ∧ er = w.heap.size + 3 ∧ mb = w.heap.size + 4 ∧ w1.heap.size = w.heap.size + 5 from ⟨⟨hp, hq⟩, by omega, by omega, by omega, HZ.out⟩)
  have x0 := hA.cell 0 rfl
  have x1 := hA.cell 1 rfl
  have x2 := hA.cell 2 rfl
  have x3 := hA.cell 3 rfl
  have x4 := hA.cell 4 rfl
  have y0 := hA'.cell 0 rfl
  have y1 := hA'.cell 1 rfl
  have y2 := hA'.cell 2 rfl
  have y3 := hA'.cell 3 rfl
  have y4 := hA'.cell 4 rfl
  have HI := Lib.hid hI
  have HE := Lib.hid hE
  have HKEEP := Lib.hid (show ∀ wx, Kept (fun x => x = mb ∨ x = is) w1 wx → ((wx.cell? ⟨p, 0, none⟩ = some (.int .i64 k) ∧ wx.cell? ⟨p, 1, none⟩ = some (.int .i64 i) ∧ wx.cell? ⟨p, 2, none⟩ = some (.int .u64 b) ∧ wx.cell? ⟨p, 3, none⟩ = some (.string ⟨t.toArray⟩) ∧ wx.cell? ⟨p, 4, none⟩ = some (.slice l n c)) ∧ (wx.cell? ⟨q, 0, none⟩ = some (.int .i64 k') ∧ wx.cell? ⟨q, 1, none⟩ = some (.int .i64 i') ∧ wx.cell? ⟨q, 2, none⟩ = some (.int .u64 b') ∧ wx.cell? ⟨q, 3, none⟩ = some (.string ⟨t'.toArray⟩) ∧ wx.cell? ⟨q, 4, none⟩ = some (.slice l' n' c'))) from fun wx hk => by
    have hp9 : wx.heap[p]? = w1.heap[p]? := hk.block p hA.1 (by have := HAD.out; omega)
    have hq9 : wx.heap[q]? = w1.heap[q]? := hk.block q hA'.1 (by have := HAD.out; omega)
    have cp := fun (j : Nat) (v : Value) (h : w1.cell? ⟨p, j, none⟩ = some v) => (World.cell?_of_block (a := ⟨p, j, none⟩) hp9).trans h
    have cq := fun (j : Nat) (v : Value) (h : w1.cell? ⟨q, j, none⟩ = some v) => (World.cell?_of_block (a := ⟨q, j, none⟩) hq9).trans h
    exact ⟨⟨cp _ _ x0, cp _ _ x1, cp _ _ x2, cp _ _ x3, cp _ _ x4⟩, ⟨cq _ _ y0, cq _ _ y1, cq _ _ y2, cq _ _ y3, cq _ _ y4⟩⟩)
  have hf := HFG.out.1.same (w' := w1) (fun x hx hlt => HB.out.block x hlt) (fun _ hx _ => hx)
  have hg := HFG.out.2.same (w' := w1) (fun x hx hlt => HB.out.block x hlt) (fun _ hx _ => hx)
  have hS2 : ∀ (M : BM), (∀ p ∈ M, w1.heap.size ≤ p.2) → ∀ x, S x → ¬ NB M mb x := fun M hM x hx h => by
    have h1 := HS.out x hx
    have h2 := HAD.out
    rcases h with h | ⟨r, hr, h⟩
    · omega
    · have := hM r hr; omega
  have hsk := shape_right _ HR.out.1.2
  have hsg := shape_right _ HR.out.2.2
  have HC1 := Lib.hid (fun (wx : World) (hv : VB [] mb w1 [] wx) => vbG kids k i b t l n c S [] mb wx (hf.keepS hv.kept (fun x hx => hS2 [] (fun _ h => by cases h) x hx)) (fun x hx => ⟨by have := HS.out x hx; have := hv.kept.size; have := HAD.out; omega, hS2 [] (fun _ h => by cases h) x hx⟩) hv.bx (fun e => by have := HR.out.1.1; subst e; simp [fitsM] at this; omega) (fun e => by have := HR.out.1.1; subst e; simp [fitsM] at this; omega) hsk HSZ.out.1)
  have HC2 := Lib.hid (fun (M1 : BM) (wx : World) (hv : VB [] mb w1 M1 wx) => vbG g k' i' b' t' l' n' c' S M1 mb wx (hg.keepS hv.kept (fun x hx => hS2 [] (fun _ h => by cases h) x hx)) (fun x hx => ⟨by have := HS.out x hx; have := hv.kept.size; have := HAD.out; omega, hS2 M1 (fun r hr => by rcases hv.fresh r hr with h | h; cases h; exact h) x hx⟩) hv.bx (fun e => by have := HR.out.2.1; subst e; simp [fitsM] at this; omega) (fun e => by have := HR.out.2.1; subst e; simp [fitsM] at this; omega) hsg HSZ.out.2)
  have HCE := Lib.hid (fun (M2 : BM) (wx : World) (y1 y2 : Value) (hv : BxM M2 mb wx) (h1 : vOne M2 k i b t (ValF M2 kids) y1) (h2 : vOne M2 k' i' b' t' (ValF M2 g) y2) => eqG kids g k i b k' i' b' t t' y1 y2 M2 mb wx hv h1 h2 HR.out.1.1 HR.out.1.2 HR.out.2.1 HR.out.2.2)
  have hN := eqOne_nrm (k := k) (i := i) (b := b) (t := t) (k' := k') (i' := i') (b' := b') (t' := t') (eqF_nrm kids g)
  generalize eqOne k i b t k' i' b' t' (eqF kids g) = rr at *
  have HN := Lib.hid hN
  have HNB := Lib.hid (show ∀ x, x < w1.heap.size → NB [] mb x → x = mb ∨ x = is from fun x _ h => by
    rcases h with h | ⟨_, h, _⟩
    · exact .inl h
    · cases h)
  have HNI := Lib.hid (show ∀ x, x = is ∨ x = er → ¬ NB [] mb x from fun x hx h => by
    have := HAD.out
    rcases h with h | ⟨_, h, _⟩
    · omega
    · cases h)
  clear hA hA' hI hE hf hg hS2 hsk hsg hmb her his hq hp x0 x1 x2 x3 x4 y0 y1 y2 y3 y4 HR HSZ hN
  refine wp_region_L (S := fun wx : World => (wx.cell? ⟨p, 0, none⟩ = some (.int .i64 k) ∧ wx.cell? ⟨p, 1, none⟩ = some (.int .i64 i) ∧ wx.cell? ⟨p, 2, none⟩ = some (.int .u64 b) ∧ wx.cell? ⟨p, 3, none⟩ = some (.string ⟨t.toArray⟩) ∧ wx.cell? ⟨p, 4, none⟩ = some (.slice l n c)) ∧ (wx.cell? ⟨q, 0, none⟩ = some (.int .i64 k') ∧ wx.cell? ⟨q, 1, none⟩ = some (.int .i64 i') ∧ wx.cell? ⟨q, 2, none⟩ = some (.int .u64 b') ∧ wx.cell? ⟨q, 3, none⟩ = some (.string ⟨t'.toArray⟩) ∧ wx.cell? ⟨q, 4, none⟩ = some (.slice l' n' c'))) (by kernel_rfl) ?_ (fun hHeld => ?_)
  · exact HKEEP.out _ (Kept.refl _ _).drew
  refine takeL (i := 0) 2 (v := ?va0) rfl (by kernel_rfl) (by kernel_rfl) (by kernel_rfl) (by kernel_rfl) (by kernel_rfl) (fun _ _ _ h => q29 (j := 9) (by decide) (by decide) h) (Or.inl ⟨by rfl, ?hy0⟩) (by assumption) ?rest0
  case hy0 => (intro w9 hSw; (try dsimp only at hSw); go_simp; try with_reducible rfl)
  try simp only [Act.put, List.setIfInBounds_toArray, List.set_cons_zero, List.set_cons_succ]
  refine takeL (i := 1) 2 (v := ?va1) rfl (by kernel_rfl) (by kernel_rfl) (by kernel_rfl) (by kernel_rfl) (by kernel_rfl) (fun _ _ _ h => q29 (j := 10) (by decide) (by decide) h) (Or.inl ⟨by rfl, ?hy1⟩) (by assumption) ?rest1
  case hy1 => (intro w9 hSw; (try dsimp only at hSw); go_simp; try with_reducible rfl)
  try simp only [Act.put, List.setIfInBounds_toArray, List.set_cons_zero, List.set_cons_succ]
  refine takeL (i := 3) 5 (v := ?va3) rfl (by kernel_rfl) (by kernel_rfl) (by kernel_rfl) (by kernel_rfl) (by kernel_rfl) (fun _ _ _ h => q29 (j := 12) (by decide) (by decide) h) (Or.inl ⟨by rfl, ?hy3⟩) (by assumption) ?rest3
  case hy3 => (intro w9 hSw; (try dsimp only at hSw); go_simp; try with_reducible rfl)
  try simp only [Act.put, List.setIfInBounds_toArray, List.set_cons_zero, List.set_cons_succ]
  refine takeL (i := 4) 5 (v := ?va4) rfl (by kernel_rfl) (by kernel_rfl) (by kernel_rfl) (by kernel_rfl) (by kernel_rfl) (fun _ _ _ h => q29 (j := 13) (by decide) (by decide) h) (Or.inl ⟨by rfl, ?hy4⟩) (by assumption) ?rest4
  case hy4 => (intro w9 hSw; (try dsimp only at hSw); go_simp; try with_reducible rfl)
  try simp only [Act.put, List.setIfInBounds_toArray, List.set_cons_zero, List.set_cons_succ]
  refine oneL (i := 2) (by kernel_rfl) rfl (fun K hK => ?_)
  (go_simp; go_at_call 103; (with_reducible refine (HC1.out _ (VB.refl HM.out (Below.refl _ _).drew)).mono ?_); rintro eA wA ⟨y1, M1, rfl, hy1, hvA⟩; have HVA := Lib.hid (VB.ahead HM.out (Below.refl _ _).drew hvA); have HY1 := Lib.hid hy1; clear hy1 hvA)
  refine hK.out _ _ ?_ (fun hHeld2 => ?_)
  · exact HKEEP.out _ (HVA.out.kept.mono HNB.out)
  clear hK K hHeld
  try simp only [Act.put, List.setIfInBounds_toArray, List.set_cons_zero, List.set_cons_succ]
  refine oneL (i := 5) (by kernel_rfl) rfl (fun K hK => ?_)
  (go_simp; go_at_call 103; (with_reducible refine (HC2.out M1 wA HVA.out).mono ?_); rintro eB wB ⟨y2, M2, rfl, hy2, hvB⟩; have HVBB := Lib.hid (HVA.out.trans hvB); have HSUB := Lib.hid hvB.sub; have HY2 := Lib.hid hy2; clear hy2 hvB)
  refine hK.out _ _ ?_ (fun hHeld => ?_)
  · exact HKEEP.out _ (HVBB.out.kept.mono HNB.out)
  clear hK K hHeld2
  try simp only [Act.put, List.setIfInBounds_toArray, List.set_cons_zero, List.set_cons_succ]
  have HCQ := Lib.hid (HCE.out M2 wB y1 y2 HVBB.out.bx (HY1.out.mono HSUB.out (fun _ h => ValF.mono HSUB.out _ h)) HY2.out)
  rcases HN.out with rfl | rfl | rfl
  · refine oneL (i := 6) (by kernel_rfl) rfl (fun K hK => ?_)
    (go_simp; go_at_call 102; (with_reducible refine HCQ.out.mono ?_); intro eC wC hC; obtain ⟨rfl, hbC⟩ := EQP.t hC; have HVC := Lib.hid (HVBB.out.kept.calm hbC); clear hC hbC)
    refine hK.out _ _ ?_ (fun hHeld2 => ?_)
    · exact HKEEP.out _ (HVC.out.mono HNB.out)
    clear hK K hHeld
    try simp only [Act.put, List.setIfInBounds_toArray, List.set_cons_zero, List.set_cons_succ]
    have hI := HI.out.keep HVC.out (HNI.out _ (.inl rfl))
    have hE := HE.out.keep HVC.out (HNI.out _ (.inr rfl))
    have i0 := hI.cell 0 rfl
    have i1 := hI.free 0 (by simp)
    have e0 := hE.cell 0 rfl
    have e1 := hE.free 0 (by simp)
    have HI2 := Lib.hid hI
    have HE2 := Lib.hid hE
    clear hI hE
    refine oneL (i := 7) (by kernel_rfl) rfl (fun K hK => ?_)
    go_simp
    refine hK.out _ _ ?_ (fun hHeld => ?_)
    · exact HKEEP.out _ ((HVC.out.mono HNB.out).put (p := ⟨is, 0, none⟩) _ (fun _ => .inr rfl))
    clear hK K hHeld2
    try simp only [Act.put, List.setIfInBounds_toArray, List.set_cons_zero, List.set_cons_succ]
    have HI3 := Lib.hid (HI2.out.set (j := 0) (.bool true))
    have hE := HE2.out.other (p := ⟨is, 0, none⟩) (.bool true) (by have := HAD.out; show is ≠ er; omega)
    have HE3 := Lib.hid hE
    have e0 := hE.cell 0 rfl
    have e1 := hE.free 0 (by simp)
    clear hE
    refine lastL (i := 8) (by kernel_rfl) rfl (by kernel_rfl) (by kernel_rfl) (fun K hK => ?_)
    go_simp
    refine hK.out _ _ ?_
    clear hK K hHeld
    go_wp2_with fail
    refine leaves_cons (f := 101) (args := #[.pointer (some ⟨is, 0, none⟩), .pointer (some ⟨er, 0, none⟩)]) (by simp) (by simp [go_sem]) ?_
    refine (catch_idle _ _ _).mono ?_
    rintro e u' w'' ⟨rfl, rfl, rfl⟩
    refine ⟨_, e_res rfl rfl (HI3.out.other (p := ⟨er, 0, none⟩) (.int .i64 0) (by have := HAD.out; show er ≠ is; omega)) (HE3.out.set (j := 0) (.int .i64 0)), rfl, ?_⟩
    exact e_below HB.out HVC.out HAD.out _ _
  · refine oneL (i := 6) (by kernel_rfl) rfl (fun K hK => ?_)
    (go_simp; go_at_call 102; (with_reducible refine HCQ.out.mono ?_); intro eC wC hC; obtain ⟨rfl, hbC⟩ := EQP.f hC; have HVC := Lib.hid (HVBB.out.kept.calm hbC); clear hC hbC)
    refine hK.out _ _ ?_ (fun hHeld2 => ?_)
    · exact HKEEP.out _ (HVC.out.mono HNB.out)
    clear hK K hHeld
    try simp only [Act.put, List.setIfInBounds_toArray, List.set_cons_zero, List.set_cons_succ]
    have hI := HI.out.keep HVC.out (HNI.out _ (.inl rfl))
    have hE := HE.out.keep HVC.out (HNI.out _ (.inr rfl))
    have i0 := hI.cell 0 rfl
    have i1 := hI.free 0 (by simp)
    have e0 := hE.cell 0 rfl
    have e1 := hE.free 0 (by simp)
    have HI2 := Lib.hid hI
    have HE2 := Lib.hid hE
    clear hI hE
    refine oneL (i := 7) (by kernel_rfl) rfl (fun K hK => ?_)
    go_simp
    refine hK.out _ _ ?_ (fun hHeld => ?_)
    · exact HKEEP.out _ ((HVC.out.mono HNB.out).put (p := ⟨is, 0, none⟩) _ (fun _ => .inr rfl))
    clear hK K hHeld2
    try simp only [Act.put, List.setIfInBounds_toArray, List.set_cons_zero, List.set_cons_succ]
    have HI3 := Lib.hid (HI2.out.set (j := 0) (.bool false))
    have hE := HE2.out.other (p := ⟨is, 0, none⟩) (.bool false) (by have := HAD.out; show is ≠ er; omega)
    have HE3 := Lib.hid hE
    have e0 := hE.cell 0 rfl
    have e1 := hE.free 0 (by simp)
    clear hE
    refine lastL (i := 8) (by kernel_rfl) rfl (by kernel_rfl) (by kernel_rfl) (fun K hK => ?_)
    go_simp
    refine hK.out _ _ ?_
    clear hK K hHeld
    go_wp2_with fail
    refine leaves_cons (f := 101) (args := #[.pointer (some ⟨is, 0, none⟩), .pointer (some ⟨er, 0, none⟩)]) (by simp) (by simp [go_sem]) ?_
    refine (catch_idle _ _ _).mono ?_
    rintro e u' w'' ⟨rfl, rfl, rfl⟩
    refine ⟨_, e_res rfl rfl (HI3.out.other (p := ⟨er, 0, none⟩) (.int .i64 0) (by have := HAD.out; show er ≠ is; omega)) (HE3.out.set (j := 0) (.int .i64 0)), rfl, ?_⟩
    exact e_below HB.out HVC.out HAD.out _ _
  · refine oneL (i := 6) (by kernel_rfl) rfl (fun K hK => ?_)
    (go_simp; go_at_call 102; (with_reducible refine HCQ.out.mono ?_); intro eC wC hC; obtain ⟨⟨pu, pv, rfl⟩, hbC⟩ := EQP.p hC; have HVC := Lib.hid (HVBB.out.kept.calm hbC); clear hC hbC)
    have hI := HI.out.keep HVC.out (HNI.out _ (.inl rfl))
    have hE := HE.out.keep HVC.out (HNI.out _ (.inr rfl))
    have hne : is ≠ er := by have := HAD.out; omega
    refine leaves_cons (f := 101) (args := #[.pointer (some ⟨is, 0, none⟩), .pointer (some ⟨er, 0, none⟩)]) (by simp) (by simp [go_sem]) ?_
    refine (catch_p pu pv [] (hI.cell 0 rfl) (hI.free 0 (by simp)) (hE.cell 0 rfl) (hE.free 0 (by simp)) hne).mono ?_
    rintro e u' w'' ⟨rfl, rfl, rfl⟩
    refine ⟨_, e_res rfl rfl ((hI.set (j := 0) (.bool false)).other (p := ⟨er, 0, none⟩) (.int .i64 10) (by show er ≠ is; omega)) ((hE.other (p := ⟨is, 0, none⟩) (.bool false) (by show is ≠ er; omega)).set (j := 0) (.int .i64 10)), rfl, ?_⟩
    exact e_below HB.out HVC.out HAD.out _ _

end Go.Proofs.YtbldidiibkcelaaGreatDoor

/-
  == of two errors (walk). Not a statement of the seat.
-/
namespace Go.Proofs.YtbldidiibkcelaaGreatDoor
open Go.RowKit

theorem qs101 (i j : Int) (t t' : ByteArray) (w : World) : (binOp .eql 68 (.iface 101 (.agg #[.int .i64 i, .string t])) (.iface 101 (.agg #[.int .i64 j, .string t']))).run Tryz.prog w = .ok (.bool (i == j && t == t')) w := by
  have h1 : ∀ x y : Value, (binOp .eql 68 (.iface 101 x) (.iface 101 y)).run Tryz.prog w = ((Op.equalIn 9999 101 x y).run Tryz.prog w).andThen fun b w' => .ok (.bool b) w' := by
    intro x y
    have hi : ((Tryz.prog.info? 101).map (fun i => i.comparable)) = some true := by kernel_rfl
    obtain ⟨i0, hi0, hc⟩ := Option.map_eq_some_iff.1 hi
    have h : (Op.equalIn 10000 68 (.iface 101 x) (.iface 101 y)).run Tryz.prog w = (Op.equalIn 9999 101 x y).run Tryz.prog w := by
      generalize hd : (9999 : Nat) = d
      rw [show (10000 : Nat) = d + 1 from by omega]
      conv => lhs; unfold Op.equalIn
      simp [run_underlying Tryz.underlying68, typeInfo, hi0, hc]
    simp only [binOp]
    simp [Op.equal, Op.maxDepth, h]
  have hf : (Tryz.prog.fieldsOf 101).toList = [{ name := "code", type := 2, offset := 0, embedded := false, tag := "", pkgPath := "conduit/errs", byteOffset := 0 }, { name := "text", type := 9, offset := 1, embedded := false, tag := "", pkgPath := "conduit/errs", byteOffset := 8 }] := by kernel_rfl
  have p0 : ∀ (a b : Value), (part 2 #[a, b] 0).run Tryz.prog w = .ok a w := fun a b => by kernel_rfl
  have p1 : ∀ (a b : Value), (part 9 #[a, b] 1).run Tryz.prog w = .ok b w := fun a b => by kernel_rfl
  have e0 : (Op.equalIn 9998 2 (.int .i64 i) (.int .i64 j)).run Tryz.prog w = .ok (i == j) w := by kernel_rfl
  have e1 : (Op.equalIn 9998 9 (.string t) (.string t')).run Tryz.prog w = .ok (t == t') w := by kernel_rfl
  rw [h1, show (9999 : Nat) = 9998 + 1 from rfl, run_equalIn_struct w 9998 101 _ _ (by kernel_rfl) (by kernel_rfl), hf]
  simp only [Op.eqFields, Sem.run_bind, p0, p1, e0, e1, Result.andThen_ok, Sem.run_ite]
  cases i == j <;> cases t == t' <;> simp [Result.andThen_ok]
theorem qb101 (i j : Int) (t t' : Bs) (w : World) : (binOp .eql 68 (.iface 101 (.agg #[.int .i64 i, .string ⟨t.toArray⟩])) (.iface 101 (.agg #[.int .i64 j, .string ⟨t'.toArray⟩]))).run Tryz.prog w = .ok (.bool (i == j && t == t')) w := by
  rw [qs101, ba_beq]
theorem qs110 (i j : Int) (t t' : ByteArray) (w : World) : (binOp .eql 68 (.iface 110 (.agg #[.int .i64 i, .string t])) (.iface 110 (.agg #[.int .i64 j, .string t']))).run Tryz.prog w = .ok (.bool (i == j && t == t')) w := by
  have h1 : ∀ x y : Value, (binOp .eql 68 (.iface 110 x) (.iface 110 y)).run Tryz.prog w = ((Op.equalIn 9999 110 x y).run Tryz.prog w).andThen fun b w' => .ok (.bool b) w' := by
    intro x y
    have hi : ((Tryz.prog.info? 110).map (fun i => i.comparable)) = some true := by kernel_rfl
    obtain ⟨i0, hi0, hc⟩ := Option.map_eq_some_iff.1 hi
    have h : (Op.equalIn 10000 68 (.iface 110 x) (.iface 110 y)).run Tryz.prog w = (Op.equalIn 9999 110 x y).run Tryz.prog w := by
      generalize hd : (9999 : Nat) = d
      rw [show (10000 : Nat) = d + 1 from by omega]
      conv => lhs; unfold Op.equalIn
      simp [run_underlying Tryz.underlying68, typeInfo, hi0, hc]
    simp only [binOp]
    simp [Op.equal, Op.maxDepth, h]
  have hf : (Tryz.prog.fieldsOf 110).toList = [{ name := "code", type := 2, offset := 0, embedded := false, tag := "", pkgPath := "conduit/errs", byteOffset := 0 }, { name := "text", type := 9, offset := 1, embedded := false, tag := "", pkgPath := "conduit/errs", byteOffset := 8 }] := by kernel_rfl
  have p0 : ∀ (a b : Value), (part 2 #[a, b] 0).run Tryz.prog w = .ok a w := fun a b => by kernel_rfl
  have p1 : ∀ (a b : Value), (part 9 #[a, b] 1).run Tryz.prog w = .ok b w := fun a b => by kernel_rfl
  have e0 : (Op.equalIn 9998 2 (.int .i64 i) (.int .i64 j)).run Tryz.prog w = .ok (i == j) w := by kernel_rfl
  have e1 : (Op.equalIn 9998 9 (.string t) (.string t')).run Tryz.prog w = .ok (t == t') w := by kernel_rfl
  rw [h1, show (9999 : Nat) = 9998 + 1 from rfl, run_equalIn_struct w 9998 110 _ _ (by kernel_rfl) (by kernel_rfl), hf]
  simp only [Op.eqFields, Sem.run_bind, p0, p1, e0, e1, Result.andThen_ok, Sem.run_ite]
  cases i == j <;> cases t == t' <;> simp [Result.andThen_ok]
theorem qb110 (i j : Int) (t t' : Bs) (w : World) : (binOp .eql 68 (.iface 110 (.agg #[.int .i64 i, .string ⟨t.toArray⟩])) (.iface 110 (.agg #[.int .i64 j, .string ⟨t'.toArray⟩]))).run Tryz.prog w = .ok (.bool (i == j && t == t')) w := by
  rw [qs110, ba_beq]
theorem ev1 (i c : Int) (t : Bs) (b : Dt) (bl : Option Addr) (bn bc : Nat) (cl : Option Addr) (cn cc : Nat) (l : Option Addr) (n cap : Nat) (w : World) :
    Calls Tryz.prog 50 #[vE 1 i c t b bl bn bc cl cn cc l n cap] w (fun e w' => e = .returned (.iface 101 (.agg #[.int .i64 c, .string ⟨t.toArray⟩])) ∧ Below w.heap.size w w') := (evalueN 1 i c t b bl bn bc cl cn cc l n cap w).mono (fun _ _ h => ⟨h.1, h.2.1⟩)
theorem ev10 (i c : Int) (t : Bs) (b : Dt) (bl : Option Addr) (bn bc : Nat) (cl : Option Addr) (cn cc : Nat) (l : Option Addr) (n cap : Nat) (w : World) :
    Calls Tryz.prog 50 #[vE 10 i c t b bl bn bc cl cn cc l n cap] w (fun e w' => e = .returned (.iface 110 (.agg #[.int .i64 c, .string ⟨t.toArray⟩])) ∧ Below w.heap.size w w') := (evalueN 10 i c t b bl bn bc cl cn cc l n cap w).mono (fun _ _ h => ⟨h.1, h.2.1⟩)
/-- what == gives up with -/
def ECv (a : Addr) : Value := .iface 228 (.pointer (some a))
def LB (a : Addr) (w : World) : Prop := w.cell? ⟨0, 0, none⟩ = some (.iface 228 (.pointer (some a)))
theorem LB.below {a : Addr} {w w' : World} (h : LB a w) (hB : Below w.heap.size w w') : LB a w' := cellAt hB h
/-- what == comes to -/
def EQE (a : Addr) (r : Bool × Int) (w : World) (e : Ending) (w' : World) : Prop :=
  Below w.heap.size w w' ∧ ((r.2 = 0 ∧ e = .returned (.bool r.1)) ∨ (r = (false, 10) ∧ e = .panicked [{ v := .iface 228 (.pointer (some a)), recovered := false }]))

set_option maxRecDepth 100000 in
set_option maxHeartbeats 16000000 in
theorem eequalN {a0 : Addr} {k i c : Int} {t : Bs} {b : Dt} {bl : Option Addr} {bn bc : Nat} {cl : Option Addr} {cn cc : Nat} {l : Option Addr} {n cap : Nat} {k' i' c' : Int} {t' : Bs} {b' : Dt} {bl' : Option Addr} {bn' bc' : Nat} {cl' : Option Addr} {cn' cc' : Nat} {l' : Option Addr} {n' cap' : Nat} {S : Nat → Prop} {w : World}
    (hF : FoAt S w b.l bl bn bc) (hG : FoAt S w b'.l bl' bn' bc') (hS : ∀ x, S x → x < w.heap.size) (h5 : k = 5 → okB b) (h5' : k' = 5 → okB b') (hL : LB a0 w) :
    Calls Tryz.prog 43 #[vE k i c t b bl bn bc cl cn cc l n cap, vE k' i' c' t' b' bl' bn' bc' cl' cn' cc' l' n' cap'] w (EQE a0 (eqE k i c t b k' i' c' t' b') w) := by
  obtain ⟨hA, hA', hB, _⟩ := ebox2_facts w k i c t b bl bn bc cl cn cc l n cap k' i' c' t' b' bl' bn' bc' cl' cn' cc' l' n' cap'
  have hL1 := hL.below hB
  generalize hres : eqE k i c t b k' i' c' t' b' = res
  have HC := Lib.hid (fun (wx : World) (hx : Below w.heap.size w wx) (hk : k = 5) (hk' : k' = 5) => show Calls Tryz.prog 80 #[.agg #[.int .i64 b.k, .int .i64 b.i, .int .u64 b.b, .string ⟨b.t.toArray⟩, .slice bl bn bc], .agg #[.int .i64 b'.k, .int .i64 b'.i, .int .u64 b'.b, .string ⟨b'.t.toArray⟩, .slice bl' bn' bc']] wx (fun e w' => e = .returned (.tuple #[.bool (eqD b b').1, .int .i64 (eqD b b').2]) ∧ Below wx.heap.size wx w') from
    equalN (hF.same (w' := wx) (fun x _ hlt => hx.block x hlt) (fun x hx2 _ => hx2)) (hG.same (w' := wx) (fun x _ hlt => hx.block x hlt) (fun x hx2 _ => hx2)) (fun x hx2 => Nat.lt_of_lt_of_le (hS x hx2) hx.size) (h5 hk).1 (h5 hk).2.1 (h5' hk').1 (h5' hk').2.1 (h5 hk).2.2 (h5' hk').2.2)
  unfold vE
  go_enter Tryz.func43, Tryz.ntmps43
  go_upto_region 1 with (fail)
  change Code.wp _ _ _ _ (ebox2 w k i c t b bl bn bc cl cn cc l n cap k' i' c' t' b' bl' bn' bc' cl' cn' cc' l' n' cap')
  generalize ebox2 w k i c t b bl bn bc cl cn cc l n cap k' i' c' t' b' bl' bn' bc' cl' cn' cc' l' n' cap' = w1 at *
  obtain ⟨q, hqq⟩ : ∃ x, x = w.heap.size + 1 := ⟨_, rfl⟩
  obtain ⟨p, hpp⟩ : ∃ x, x = w.heap.size := ⟨_, rfl⟩
  rw [← hqq] at hA'
  rw [← hpp] at hA
  rw [← hqq, ← hpp]
  have HX := Lib.hid (And.intro hA hA')
  have HB := Lib.hid hB
  have HL := Lib.hid hL1
  have x0 := hA.cell 0 rfl; have y0 := hA'.cell 0 rfl
  clear hF hG hS h5 h5' hA hA' hB hqq hpp hL hL1
  have HRES := Lib.hid hres
  clear hres
  by_cases hk : k = k'
  rotate_left
  · have hne : (k != k') = true := by simpa using hk
    have HE := Lib.hid (show (false, (0 : Int)) = res by rw [← HRES.out]; unfold eqE; rw [if_pos hk])
    clear hk HRES
    go_wp2_with fail
    go_ret
    exact ⟨HB.out, .inl ⟨by rw [← HE.out], by rw [← HE.out]; rfl⟩⟩
  subst hk
  have hne : (k != k) = false := by simp
  by_cases h1 : k = 1
  · subst h1
    have HE := Lib.hid (show (c == c' && t == t', (0 : Int)) = res by rw [← HRES.out]; rfl)
    have HK := Lib.hid (show ∀ wx, Below w1.heap.size w1 wx → ((wx.cell? ⟨p, 0, none⟩ = some (.int .i64 1) ∧ wx.cell? ⟨p, 1, none⟩ = some (.int .i64 i) ∧ wx.cell? ⟨p, 2, none⟩ = some (.int .i64 c) ∧ wx.cell? ⟨p, 3, none⟩ = some (.string ⟨t.toArray⟩) ∧ wx.cell? ⟨p, 4, none⟩ = some (.int .i64 b.k) ∧ wx.cell? ⟨p, 5, none⟩ = some (.int .i64 b.i) ∧ wx.cell? ⟨p, 6, none⟩ = some (.int .u64 b.b) ∧ wx.cell? ⟨p, 7, none⟩ = some (.string ⟨b.t.toArray⟩) ∧ wx.cell? ⟨p, 8, none⟩ = some (.slice bl bn bc) ∧ wx.cell? ⟨p, 9, none⟩ = some (.slice cl cn cc) ∧ wx.cell? ⟨p, 10, none⟩ = some (.slice l n cap)) ∧ (wx.cell? ⟨q, 0, none⟩ = some (.int .i64 1) ∧ wx.cell? ⟨q, 1, none⟩ = some (.int .i64 i') ∧ wx.cell? ⟨q, 2, none⟩ = some (.int .i64 c') ∧ wx.cell? ⟨q, 3, none⟩ = some (.string ⟨t'.toArray⟩) ∧ wx.cell? ⟨q, 4, none⟩ = some (.int .i64 b'.k) ∧ wx.cell? ⟨q, 5, none⟩ = some (.int .i64 b'.i) ∧ wx.cell? ⟨q, 6, none⟩ = some (.int .u64 b'.b) ∧ wx.cell? ⟨q, 7, none⟩ = some (.string ⟨b'.t.toArray⟩) ∧ wx.cell? ⟨q, 8, none⟩ = some (.slice bl' bn' bc') ∧ wx.cell? ⟨q, 9, none⟩ = some (.slice cl' cn' cc') ∧ wx.cell? ⟨q, 10, none⟩ = some (.slice l' n' cap'))) from fun wx hx => by
      have a := HX.out.1.below hx
      have d := HX.out.2.below hx
      exact ⟨⟨a.cell 0 rfl, a.cell 1 rfl, a.cell 2 rfl, a.cell 3 rfl, a.cell 4 rfl, a.cell 5 rfl, a.cell 6 rfl, a.cell 7 rfl, a.cell 8 rfl, a.cell 9 rfl, a.cell 10 rfl⟩, ⟨d.cell 0 rfl, d.cell 1 rfl, d.cell 2 rfl, d.cell 3 rfl, d.cell 4 rfl, d.cell 5 rfl, d.cell 6 rfl, d.cell 7 rfl, d.cell 8 rfl, d.cell 9 rfl, d.cell 10 rfl⟩⟩)
    have HV1 := Lib.hid (fun wx => ev1 i c t b bl bn bc cl cn cc l n cap wx)
    have HV2 := Lib.hid (fun wx => ev1 i' c' t' b' bl' bn' bc' cl' cn' cc' l' n' cap' wx)
    unfold vE at HV1 HV2
    have hq1 := qb101 c c' t t'
    clear HRES HX HC
    go_upto_region 6 with fail
    go_region_held3 (fun wx : World => (wx.cell? ⟨p, 0, none⟩ = some (.int .i64 1) ∧ wx.cell? ⟨p, 1, none⟩ = some (.int .i64 i) ∧ wx.cell? ⟨p, 2, none⟩ = some (.int .i64 c) ∧ wx.cell? ⟨p, 3, none⟩ = some (.string ⟨t.toArray⟩) ∧ wx.cell? ⟨p, 4, none⟩ = some (.int .i64 b.k) ∧ wx.cell? ⟨p, 5, none⟩ = some (.int .i64 b.i) ∧ wx.cell? ⟨p, 6, none⟩ = some (.int .u64 b.b) ∧ wx.cell? ⟨p, 7, none⟩ = some (.string ⟨b.t.toArray⟩) ∧ wx.cell? ⟨p, 8, none⟩ = some (.slice bl bn bc) ∧ wx.cell? ⟨p, 9, none⟩ = some (.slice cl cn cc) ∧ wx.cell? ⟨p, 10, none⟩ = some (.slice l n cap)) ∧ (wx.cell? ⟨q, 0, none⟩ = some (.int .i64 1) ∧ wx.cell? ⟨q, 1, none⟩ = some (.int .i64 i') ∧ wx.cell? ⟨q, 2, none⟩ = some (.int .i64 c') ∧ wx.cell? ⟨q, 3, none⟩ = some (.string ⟨t'.toArray⟩) ∧ wx.cell? ⟨q, 4, none⟩ = some (.int .i64 b'.k) ∧ wx.cell? ⟨q, 5, none⟩ = some (.int .i64 b'.i) ∧ wx.cell? ⟨q, 6, none⟩ = some (.int .u64 b'.b) ∧ wx.cell? ⟨q, 7, none⟩ = some (.string ⟨b'.t.toArray⟩) ∧ wx.cell? ⟨q, 8, none⟩ = some (.slice bl' bn' bc') ∧ wx.cell? ⟨q, 9, none⟩ = some (.slice cl' cn' cc') ∧ wx.cell? ⟨q, 10, none⟩ = some (.slice l' n' cap')))
      (first | exact HK.out _ (Below.refl _ _) | exact HK.out _ (Below.refl _ _).drew | exact HK.out _ HB2.out | exact HK.out _ HB3.out)
      (first
        | (go_simp; go_at_call 50; (with_reducible refine (HV1.out _).mono ?_); rintro e2 w2 ⟨rfl, hb⟩; have HB2 := Lib.hid ((Below.refl w1.heap.size w1).drew.trans hb); clear hb)
        | (go_simp; go_at_call 50; (with_reducible refine (HV2.out _).mono ?_); rintro e3 w3 ⟨rfl, hb⟩; have HB3 := Lib.hid (HB2.out.trans (hb.mono HB2.out.size)); clear hb))
    all_goals
      go_wp2_with fail
      go_ret
      exact ⟨HB.out.trans (HB3.out.mono HB.out.size), .inl ⟨by rw [← HE.out], by rw [← HE.out]; rfl⟩⟩
  by_cases h10 : k = 10
  · subst h10
    have HE := Lib.hid (show (c == c' && t == t', (0 : Int)) = res by rw [← HRES.out]; rfl)
    have HK := Lib.hid (show ∀ wx, Below w1.heap.size w1 wx → ((wx.cell? ⟨p, 0, none⟩ = some (.int .i64 10) ∧ wx.cell? ⟨p, 1, none⟩ = some (.int .i64 i) ∧ wx.cell? ⟨p, 2, none⟩ = some (.int .i64 c) ∧ wx.cell? ⟨p, 3, none⟩ = some (.string ⟨t.toArray⟩) ∧ wx.cell? ⟨p, 4, none⟩ = some (.int .i64 b.k) ∧ wx.cell? ⟨p, 5, none⟩ = some (.int .i64 b.i) ∧ wx.cell? ⟨p, 6, none⟩ = some (.int .u64 b.b) ∧ wx.cell? ⟨p, 7, none⟩ = some (.string ⟨b.t.toArray⟩) ∧ wx.cell? ⟨p, 8, none⟩ = some (.slice bl bn bc) ∧ wx.cell? ⟨p, 9, none⟩ = some (.slice cl cn cc) ∧ wx.cell? ⟨p, 10, none⟩ = some (.slice l n cap)) ∧ (wx.cell? ⟨q, 0, none⟩ = some (.int .i64 10) ∧ wx.cell? ⟨q, 1, none⟩ = some (.int .i64 i') ∧ wx.cell? ⟨q, 2, none⟩ = some (.int .i64 c') ∧ wx.cell? ⟨q, 3, none⟩ = some (.string ⟨t'.toArray⟩) ∧ wx.cell? ⟨q, 4, none⟩ = some (.int .i64 b'.k) ∧ wx.cell? ⟨q, 5, none⟩ = some (.int .i64 b'.i) ∧ wx.cell? ⟨q, 6, none⟩ = some (.int .u64 b'.b) ∧ wx.cell? ⟨q, 7, none⟩ = some (.string ⟨b'.t.toArray⟩) ∧ wx.cell? ⟨q, 8, none⟩ = some (.slice bl' bn' bc') ∧ wx.cell? ⟨q, 9, none⟩ = some (.slice cl' cn' cc') ∧ wx.cell? ⟨q, 10, none⟩ = some (.slice l' n' cap'))) from fun wx hx => by
      have a := HX.out.1.below hx
      have d := HX.out.2.below hx
      exact ⟨⟨a.cell 0 rfl, a.cell 1 rfl, a.cell 2 rfl, a.cell 3 rfl, a.cell 4 rfl, a.cell 5 rfl, a.cell 6 rfl, a.cell 7 rfl, a.cell 8 rfl, a.cell 9 rfl, a.cell 10 rfl⟩, ⟨d.cell 0 rfl, d.cell 1 rfl, d.cell 2 rfl, d.cell 3 rfl, d.cell 4 rfl, d.cell 5 rfl, d.cell 6 rfl, d.cell 7 rfl, d.cell 8 rfl, d.cell 9 rfl, d.cell 10 rfl⟩⟩)
    have HV1 := Lib.hid (fun wx => ev10 i c t b bl bn bc cl cn cc l n cap wx)
    have HV2 := Lib.hid (fun wx => ev10 i' c' t' b' bl' bn' bc' cl' cn' cc' l' n' cap' wx)
    unfold vE at HV1 HV2
    have hq1 := qb110 c c' t t'
    clear HRES HX HC
    go_upto_region 6 with fail
    go_region_held3 (fun wx : World => (wx.cell? ⟨p, 0, none⟩ = some (.int .i64 10) ∧ wx.cell? ⟨p, 1, none⟩ = some (.int .i64 i) ∧ wx.cell? ⟨p, 2, none⟩ = some (.int .i64 c) ∧ wx.cell? ⟨p, 3, none⟩ = some (.string ⟨t.toArray⟩) ∧ wx.cell? ⟨p, 4, none⟩ = some (.int .i64 b.k) ∧ wx.cell? ⟨p, 5, none⟩ = some (.int .i64 b.i) ∧ wx.cell? ⟨p, 6, none⟩ = some (.int .u64 b.b) ∧ wx.cell? ⟨p, 7, none⟩ = some (.string ⟨b.t.toArray⟩) ∧ wx.cell? ⟨p, 8, none⟩ = some (.slice bl bn bc) ∧ wx.cell? ⟨p, 9, none⟩ = some (.slice cl cn cc) ∧ wx.cell? ⟨p, 10, none⟩ = some (.slice l n cap)) ∧ (wx.cell? ⟨q, 0, none⟩ = some (.int .i64 10) ∧ wx.cell? ⟨q, 1, none⟩ = some (.int .i64 i') ∧ wx.cell? ⟨q, 2, none⟩ = some (.int .i64 c') ∧ wx.cell? ⟨q, 3, none⟩ = some (.string ⟨t'.toArray⟩) ∧ wx.cell? ⟨q, 4, none⟩ = some (.int .i64 b'.k) ∧ wx.cell? ⟨q, 5, none⟩ = some (.int .i64 b'.i) ∧ wx.cell? ⟨q, 6, none⟩ = some (.int .u64 b'.b) ∧ wx.cell? ⟨q, 7, none⟩ = some (.string ⟨b'.t.toArray⟩) ∧ wx.cell? ⟨q, 8, none⟩ = some (.slice bl' bn' bc') ∧ wx.cell? ⟨q, 9, none⟩ = some (.slice cl' cn' cc') ∧ wx.cell? ⟨q, 10, none⟩ = some (.slice l' n' cap')))
      (first | exact HK.out _ (Below.refl _ _) | exact HK.out _ (Below.refl _ _).drew | exact HK.out _ HB2.out | exact HK.out _ HB3.out)
      (first
        | (go_simp; go_at_call 50; (with_reducible refine (HV1.out _).mono ?_); rintro e2 w2 ⟨rfl, hb⟩; have HB2 := Lib.hid ((Below.refl w1.heap.size w1).drew.trans hb); clear hb)
        | (go_simp; go_at_call 50; (with_reducible refine (HV2.out _).mono ?_); rintro e3 w3 ⟨rfl, hb⟩; have HB3 := Lib.hid (HB2.out.trans (hb.mono HB2.out.size)); clear hb))
    all_goals
      go_wp2_with fail
      go_ret
      exact ⟨HB.out.trans (HB3.out.mono HB.out.size), .inl ⟨by rw [← HE.out], by rw [← HE.out]; rfl⟩⟩
  have e1 : (k == 1) = false := by simpa using h1
  have e10 : (k == 10) = false := by simpa using h10
  by_cases h5 : k = 5
  · have e5 : (k == 5) = true := by simp [h5]
    have HC2 := Lib.hid (fun wx hx => HC.out wx hx h5 h5)
    have hd : eqD b b' = res := by rw [← HRES.out, h5]; rfl
    rw [hd] at HC2
    have hN : nrm res := by rw [← hd]; exact eqOne_nrm (eqF_nrm _ _)
    have x4 := HX.out.1.cell 4 rfl; have x5 := HX.out.1.cell 5 rfl; have x6 := HX.out.1.cell 6 rfl; have x7 := HX.out.1.cell 7 rfl; have x8 := HX.out.1.cell 8 rfl
    have y4 := HX.out.2.cell 4 rfl; have y5 := HX.out.2.cell 5 rfl; have y6 := HX.out.2.cell 6 rfl; have y7 := HX.out.2.cell 7 rfl; have y8 := HX.out.2.cell 8 rfl
    clear HRES HC hd h5 h1 h10
    rcases hN with rfl | rfl | rfl
    · go_wp2_with (go_at_call 80; (with_reducible refine (HC2.out _ HB.out).mono ?_); rintro eD wD ⟨rfl, hb⟩; have HBD := Lib.hid (HB.out.trans (hb.mono HB.out.size)); have hl := HL.out.below hb; have hl0 : wD.cell? ⟨0, 0, none⟩ = some (.iface 228 (.pointer (some a0))) := hl; clear hb hl)
      go_ret
      exact ⟨HBD.out, .inl ⟨rfl, rfl⟩⟩
    · go_wp2_with (go_at_call 80; (with_reducible refine (HC2.out _ HB.out).mono ?_); rintro eD wD ⟨rfl, hb⟩; have HBD := Lib.hid (HB.out.trans (hb.mono HB.out.size)); have hl := HL.out.below hb; have hl0 : wD.cell? ⟨0, 0, none⟩ = some (.iface 228 (.pointer (some a0))) := hl; clear hb hl)
      go_ret
      exact ⟨HBD.out, .inl ⟨rfl, rfl⟩⟩
    · go_wp2_with (go_at_call 80; (with_reducible refine (HC2.out _ HB.out).mono ?_); rintro eD wD ⟨rfl, hb⟩; have HBD := Lib.hid (HB.out.trans (hb.mono HB.out.size)); have hl := HL.out.below hb; have hl0 : wD.cell? ⟨0, 0, none⟩ = some (.iface 228 (.pointer (some a0))) := hl; clear hb hl)
      exact ⟨rfl, HBD.out, .inr ⟨rfl, rfl⟩⟩
  have e5 : (k == 5) = false := by simpa using h5
  by_cases h6 : k = 6
  · have e6 : (k == 6) = true := by simp [h6]
    have HE := Lib.hid (show (false, (10 : Int)) = res by rw [← HRES.out, h6]; rfl)
    have hl0 : w1.cell? ⟨0, 0, none⟩ = some (.iface 228 (.pointer (some a0))) := HL.out
    clear HRES HC h6 h5 h1 h10
    go_wp2_with fail
    rw [← HE.out]
    exact ⟨rfl, HB.out, .inr ⟨rfl, rfl⟩⟩
  have e6 : (k == 6) = false := by simpa using h6
  have HE := Lib.hid (show (i == i', (0 : Int)) = res by
    rw [← HRES.out]
    unfold eqE
    rw [if_neg (fun h => h rfl), if_neg (by omega), if_neg h5, if_neg h6])
  have x1 := HX.out.1.cell 1 rfl; have y1 := HX.out.2.cell 1 rfl
  clear HRES HC h6 h5 h1 h10
  go_wp2_with fail
  go_ret
  exact ⟨HB.out, .inl ⟨by rw [← HE.out], by rw [← HE.out]; rfl⟩⟩
end Go.Proofs.YtbldidiibkcelaaGreatDoor

/-
  compared, Equal (walks). Not a statement of the seat.
-/
namespace Go.Proofs.YtbldidiibkcelaaGreatDoor
open Go.RowKit

theorem neEC (a : Addr) (w : World) : (binOp .neq 20 (.iface 228 (.pointer (some a))) (.iface 228 (.pointer (some a)))).run Tryz.prog w = .ok (.bool false) w := by
  obtain ⟨i, hi, hc⟩ := Option.map_eq_some_iff.1 (show ((Tryz.prog.info? 228).map (fun i => i.comparable)) = some true by kernel_rfl)
  obtain ⟨j, hj, _⟩ := Option.map_eq_some_iff.1 (show ((Tryz.prog.info? 277).map (fun i => i.size)) = some 1 by kernel_rfl)
  simp only [binOp]
  simp [Op.equal, Op.maxDepth, run_equalIn_iface_ptr_same w 9998 a Tryz.underlying20 Tryz.underlying228 hi hc hj]

theorem catch_p79 {p q a : Addr} {x : Bool} {y : Int} (older : List PanicEntry) {w : World} (hL : w.cell? ⟨0, 0, none⟩ = some (.iface 228 (.pointer (some a)))) (hc : w.cell? p = some (.bool x)) (hz : w.frozen? p = false) (hd : w.cell? q = some (.int .i64 y)) (hy : w.frozen? q = false) (hne : p.block ≠ q.block) :
    CallsD Tryz.prog 79 #[.pointer (some p), .pointer (some q)] (.panicking ({ v := .iface 228 (.pointer (some a)), recovered := false } :: older)) w fun e u' w' =>
      e = .returned (.tuple #[]) ∧ u' = .panicking ({ v := .iface 228 (.pointer (some a)), recovered := true } :: older) ∧ w' = (w.setCell p (.bool false)).setCell q (.int .i64 10) := by
  have hd' : (w.setCell p (.bool false)).cell? q = some (.int .i64 y) := by rw [World.cell?_setCell_other (h := fun e => hne (by rw [e]))]; exact hd
  have hq1 := neEC a w
  refine callsD_of_wpS Tryz.func79 rfl fun c₀ cs hu => ?_
  apply wpS_seq
  apply wpS_region
  simp [wpOpsS, go_sem, recoverD, hu, Tryz.ntmps79, Exit.thenS]
  apply wpS_seq
  apply wpS_region
  simp [wpOpsS, go_sem, Exit.thenS]
  refine wpS_cond (t := true) (by simp [Act.eval, Array.replicate]) ?_
  simp only [if_true]
  apply wpS_seq
  apply wpS_seq
  apply wpS_region
  simp [wpOpsS, go_sem, Exit.thenS, hL, hq1]
  refine wpS_cond (t := false) (by simp [Act.eval, Array.replicate]) ?_
  simp only [Bool.false_eq_true, if_false]
  refine wpS_of_wp (wp_skip ?_)
  apply wpS_region
  simp [wpOpsS, go_sem, hc, hz, hd', hy, bodyPostS, results, Tryz.results79]

set_option maxRecDepth 100000 in
set_option maxHeartbeats 8000000 in
theorem comp42 {a0 : Addr} {r : Bool × Int} {p0 p1 : Nat} {w : World} (hN : nrm r) (hL : LB a0 w) (hC : ∀ wx, Below w.heap.size w wx → Calls Tryz.prog 42 #[.pointer (some ⟨p0, 0, none⟩), .pointer (some ⟨p1, 0, none⟩)] wx (EQE a0 r wx)) :
    Calls Tryz.prog 41 #[.func (Fn.func 42) #[] #[.pointer (some ⟨p0, 0, none⟩), .pointer (some ⟨p1, 0, none⟩)]] w (fun e w' => e = .returned (.tuple #[.bool r.1, .int .i64 r.2]) ∧ Below w.heap.size w w') := by
  obtain ⟨hI, hE, hB⟩ := cw_facts w
  have hmf : ∀ (fn : Fn) (first cap : Array Value) (w : World), (Instr.makeFunc fn first cap).run Tryz.prog w = .ok (.func fn first cap) w := fun _ _ _ _ => rfl
  have HC := Lib.hid (hC _ hB)
  have HI := Lib.hid hI
  have HE := Lib.hid hE
  have HB := Lib.hid hB
  have HL := Lib.hid (hL.below hB)
  clear hC hL hI hE hB
  go_enter_defers Tryz.func41, Tryz.ntmps41
  go_upto_region 1 with (fail)
  change Code.wp _ _ _ _ (cw w)
  generalize cw w = w1 at *
  obtain ⟨er, her⟩ : ∃ x, x = w.heap.size + 1 := ⟨_, rfl⟩
  obtain ⟨ib, hib⟩ : ∃ x, x = w.heap.size := ⟨_, rfl⟩
  rw [← her] at HE
  rw [← hib] at HI
  rw [← her, ← hib]
  have HAD := Lib.hid (show ib = w.heap.size ∧ er = w.heap.size + 1 from ⟨hib, her⟩)
  clear her hib
  rcases hN with rfl | rfl | rfl
  · go_wp2_with (go_at_call 42; (with_reducible refine HC.out.mono ?_); rintro eB wB ⟨hB, ⟨_, rfl⟩ | ⟨hne9, _⟩⟩; rotate_left; (cases hne9); have HBB := Lib.hid hB; have hi := HI.out.below hB; have he := HE.out.below hB; have i0 := hi.cell 0 rfl; have i1 := hi.free 0 (by simp); have e0 := he.cell 0 rfl; have e1 := he.free 0 (by simp); have hne : ib ≠ er := (by have := HAD.out; omega); have HI3 := Lib.hid hi; have HE3 := Lib.hid he; clear hB hi he)
    have hne : er ≠ ib := by have := HAD.out; omega
    refine leaves_cons (f := 79) (args := #[.pointer (some ⟨ib, 0, none⟩), .pointer (some ⟨er, 0, none⟩)]) (by simp) (by simp [go_sem]) ?_
    refine (catch_idle79 _ _ _).mono ?_
    rintro e u' w'' ⟨rfl, rfl, rfl⟩
    have hi4 := (HI3.out.set (j := 0) (.bool true)).other (p := ⟨er, 0, none⟩) (.int .i64 0) hne
    have he4 := (HE3.out.other (p := ⟨ib, 0, none⟩) (.bool true) (Ne.symm hne)).set (j := 0) (.int .i64 0)
    refine ⟨_, c_res rfl rfl hi4 he4, rfl, ?_⟩
    have h1 : Kept (fun x => x = ib ∨ x = er) wB ((wB.setCell ⟨ib, 0, none⟩ (.bool true)).setCell ⟨er, 0, none⟩ (.int .i64 0)) :=
      ((Kept.refl _ _).put (p := ⟨ib, 0, none⟩) _ (fun _ => .inl rfl)).put (p := ⟨er, 0, none⟩) _ (fun _ => .inr rfl)
    have h2 : Below w.heap.size w wB := HB.out.trans (HBB.out.mono HB.out.size)
    exact h2.trans (h1.below h2.size (fun x hx h => by have := HAD.out; omega))
  · go_wp2_with (go_at_call 42; (with_reducible refine HC.out.mono ?_); rintro eB wB ⟨hB, ⟨_, rfl⟩ | ⟨hne9, _⟩⟩; rotate_left; (cases hne9); have HBB := Lib.hid hB; have hi := HI.out.below hB; have he := HE.out.below hB; have i0 := hi.cell 0 rfl; have i1 := hi.free 0 (by simp); have e0 := he.cell 0 rfl; have e1 := he.free 0 (by simp); have hne : ib ≠ er := (by have := HAD.out; omega); have HI3 := Lib.hid hi; have HE3 := Lib.hid he; clear hB hi he)
    have hne : er ≠ ib := by have := HAD.out; omega
    refine leaves_cons (f := 79) (args := #[.pointer (some ⟨ib, 0, none⟩), .pointer (some ⟨er, 0, none⟩)]) (by simp) (by simp [go_sem]) ?_
    refine (catch_idle79 _ _ _).mono ?_
    rintro e u' w'' ⟨rfl, rfl, rfl⟩
    have hi4 := (HI3.out.set (j := 0) (.bool false)).other (p := ⟨er, 0, none⟩) (.int .i64 0) hne
    have he4 := (HE3.out.other (p := ⟨ib, 0, none⟩) (.bool false) (Ne.symm hne)).set (j := 0) (.int .i64 0)
    refine ⟨_, c_res rfl rfl hi4 he4, rfl, ?_⟩
    have h1 : Kept (fun x => x = ib ∨ x = er) wB ((wB.setCell ⟨ib, 0, none⟩ (.bool false)).setCell ⟨er, 0, none⟩ (.int .i64 0)) :=
      ((Kept.refl _ _).put (p := ⟨ib, 0, none⟩) _ (fun _ => .inl rfl)).put (p := ⟨er, 0, none⟩) _ (fun _ => .inr rfl)
    have h2 : Below w.heap.size w wB := HB.out.trans (HBB.out.mono HB.out.size)
    exact h2.trans (h1.below h2.size (fun x hx h => by have := HAD.out; omega))
  · go_wp2_with (go_at_call 42; (with_reducible refine HC.out.mono ?_); rintro eB wB ⟨hB, ⟨hne9, _⟩ | ⟨_, rfl⟩⟩; (cases hne9); have HBB := Lib.hid hB; clear hB)
    have hi := HI.out.below HBB.out
    have he := HE.out.below HBB.out
    have hne : ib ≠ er := by have := HAD.out; omega
    refine leaves_cons (f := 79) (args := #[.pointer (some ⟨ib, 0, none⟩), .pointer (some ⟨er, 0, none⟩)]) (by simp) (by simp [go_sem]) ?_
    refine (catch_p79 [] (HL.out.below HBB.out) (hi.cell 0 rfl) (hi.free 0 (by simp)) (he.cell 0 rfl) (he.free 0 (by simp)) hne).mono ?_
    rintro e u' w'' ⟨rfl, rfl, rfl⟩
    refine ⟨_, c_res rfl rfl ((hi.set (j := 0) (.bool false)).other (p := ⟨er, 0, none⟩) (.int .i64 10) (Ne.symm hne)) ((he.other (p := ⟨ib, 0, none⟩) (.bool false) hne).set (j := 0) (.int .i64 10)), rfl, ?_⟩
    have h1 : Kept (fun x => x = ib ∨ x = er) wB ((wB.setCell ⟨ib, 0, none⟩ (.bool false)).setCell ⟨er, 0, none⟩ (.int .i64 10)) :=
      ((Kept.refl _ _).put (p := ⟨ib, 0, none⟩) _ (fun _ => .inl rfl)).put (p := ⟨er, 0, none⟩) _ (fun _ => .inr rfl)
    have h2 : Below w.heap.size w wB := HB.out.trans (HBB.out.mono HB.out.size)
    exact h2.trans (h1.below h2.size (fun x hx h => by have := HAD.out; omega))

set_option maxRecDepth 100000 in
set_option maxHeartbeats 8000000 in
theorem comp51 {a0 : Addr} {r : Bool × Int} {p0 p1 p2 : Nat} {w : World} (hN : nrm r) (hL : LB a0 w) (hC : ∀ wx, Below w.heap.size w wx → Calls Tryz.prog 51 #[.pointer (some ⟨p0, 0, none⟩), .pointer (some ⟨p1, 0, none⟩), .pointer (some ⟨p2, 0, none⟩)] wx (EQE a0 r wx)) :
    Calls Tryz.prog 41 #[.func (Fn.func 51) #[] #[.pointer (some ⟨p0, 0, none⟩), .pointer (some ⟨p1, 0, none⟩), .pointer (some ⟨p2, 0, none⟩)]] w (fun e w' => e = .returned (.tuple #[.bool r.1, .int .i64 r.2]) ∧ Below w.heap.size w w') := by
  obtain ⟨hI, hE, hB⟩ := cw_facts w
  have hmf : ∀ (fn : Fn) (first cap : Array Value) (w : World), (Instr.makeFunc fn first cap).run Tryz.prog w = .ok (.func fn first cap) w := fun _ _ _ _ => rfl
  have HC := Lib.hid (hC _ hB)
  have HI := Lib.hid hI
  have HE := Lib.hid hE
  have HB := Lib.hid hB
  have HL := Lib.hid (hL.below hB)
  clear hC hL hI hE hB
  go_enter_defers Tryz.func41, Tryz.ntmps41
  go_upto_region 1 with (fail)
  change Code.wp _ _ _ _ (cw w)
  generalize cw w = w1 at *
  obtain ⟨er, her⟩ : ∃ x, x = w.heap.size + 1 := ⟨_, rfl⟩
  obtain ⟨ib, hib⟩ : ∃ x, x = w.heap.size := ⟨_, rfl⟩
  rw [← her] at HE
  rw [← hib] at HI
  rw [← her, ← hib]
  have HAD := Lib.hid (show ib = w.heap.size ∧ er = w.heap.size + 1 from ⟨hib, her⟩)
  clear her hib
  rcases hN with rfl | rfl | rfl
  · go_wp2_with (go_at_call 51; (with_reducible refine HC.out.mono ?_); rintro eB wB ⟨hB, ⟨_, rfl⟩ | ⟨hne9, _⟩⟩; rotate_left; (cases hne9); have HBB := Lib.hid hB; have hi := HI.out.below hB; have he := HE.out.below hB; have i0 := hi.cell 0 rfl; have i1 := hi.free 0 (by simp); have e0 := he.cell 0 rfl; have e1 := he.free 0 (by simp); have hne : ib ≠ er := (by have := HAD.out; omega); have HI3 := Lib.hid hi; have HE3 := Lib.hid he; clear hB hi he)
    have hne : er ≠ ib := by have := HAD.out; omega
    refine leaves_cons (f := 79) (args := #[.pointer (some ⟨ib, 0, none⟩), .pointer (some ⟨er, 0, none⟩)]) (by simp) (by simp [go_sem]) ?_
    refine (catch_idle79 _ _ _).mono ?_
    rintro e u' w'' ⟨rfl, rfl, rfl⟩
    have hi4 := (HI3.out.set (j := 0) (.bool true)).other (p := ⟨er, 0, none⟩) (.int .i64 0) hne
    have he4 := (HE3.out.other (p := ⟨ib, 0, none⟩) (.bool true) (Ne.symm hne)).set (j := 0) (.int .i64 0)
    refine ⟨_, c_res rfl rfl hi4 he4, rfl, ?_⟩
    have h1 : Kept (fun x => x = ib ∨ x = er) wB ((wB.setCell ⟨ib, 0, none⟩ (.bool true)).setCell ⟨er, 0, none⟩ (.int .i64 0)) :=
      ((Kept.refl _ _).put (p := ⟨ib, 0, none⟩) _ (fun _ => .inl rfl)).put (p := ⟨er, 0, none⟩) _ (fun _ => .inr rfl)
    have h2 : Below w.heap.size w wB := HB.out.trans (HBB.out.mono HB.out.size)
    exact h2.trans (h1.below h2.size (fun x hx h => by have := HAD.out; omega))
  · go_wp2_with (go_at_call 51; (with_reducible refine HC.out.mono ?_); rintro eB wB ⟨hB, ⟨_, rfl⟩ | ⟨hne9, _⟩⟩; rotate_left; (cases hne9); have HBB := Lib.hid hB; have hi := HI.out.below hB; have he := HE.out.below hB; have i0 := hi.cell 0 rfl; have i1 := hi.free 0 (by simp); have e0 := he.cell 0 rfl; have e1 := he.free 0 (by simp); have hne : ib ≠ er := (by have := HAD.out; omega); have HI3 := Lib.hid hi; have HE3 := Lib.hid he; clear hB hi he)
    have hne : er ≠ ib := by have := HAD.out; omega
    refine leaves_cons (f := 79) (args := #[.pointer (some ⟨ib, 0, none⟩), .pointer (some ⟨er, 0, none⟩)]) (by simp) (by simp [go_sem]) ?_
    refine (catch_idle79 _ _ _).mono ?_
    rintro e u' w'' ⟨rfl, rfl, rfl⟩
    have hi4 := (HI3.out.set (j := 0) (.bool false)).other (p := ⟨er, 0, none⟩) (.int .i64 0) hne
    have he4 := (HE3.out.other (p := ⟨ib, 0, none⟩) (.bool false) (Ne.symm hne)).set (j := 0) (.int .i64 0)
    refine ⟨_, c_res rfl rfl hi4 he4, rfl, ?_⟩
    have h1 : Kept (fun x => x = ib ∨ x = er) wB ((wB.setCell ⟨ib, 0, none⟩ (.bool false)).setCell ⟨er, 0, none⟩ (.int .i64 0)) :=
      ((Kept.refl _ _).put (p := ⟨ib, 0, none⟩) _ (fun _ => .inl rfl)).put (p := ⟨er, 0, none⟩) _ (fun _ => .inr rfl)
    have h2 : Below w.heap.size w wB := HB.out.trans (HBB.out.mono HB.out.size)
    exact h2.trans (h1.below h2.size (fun x hx h => by have := HAD.out; omega))
  · go_wp2_with (go_at_call 51; (with_reducible refine HC.out.mono ?_); rintro eB wB ⟨hB, ⟨hne9, _⟩ | ⟨_, rfl⟩⟩; (cases hne9); have HBB := Lib.hid hB; clear hB)
    have hi := HI.out.below HBB.out
    have he := HE.out.below HBB.out
    have hne : ib ≠ er := by have := HAD.out; omega
    refine leaves_cons (f := 79) (args := #[.pointer (some ⟨ib, 0, none⟩), .pointer (some ⟨er, 0, none⟩)]) (by simp) (by simp [go_sem]) ?_
    refine (catch_p79 [] (HL.out.below HBB.out) (hi.cell 0 rfl) (hi.free 0 (by simp)) (he.cell 0 rfl) (he.free 0 (by simp)) hne).mono ?_
    rintro e u' w'' ⟨rfl, rfl, rfl⟩
    refine ⟨_, c_res rfl rfl ((hi.set (j := 0) (.bool false)).other (p := ⟨er, 0, none⟩) (.int .i64 10) (Ne.symm hne)) ((he.other (p := ⟨ib, 0, none⟩) (.bool false) hne).set (j := 0) (.int .i64 10)), rfl, ?_⟩
    have h1 : Kept (fun x => x = ib ∨ x = er) wB ((wB.setCell ⟨ib, 0, none⟩ (.bool false)).setCell ⟨er, 0, none⟩ (.int .i64 10)) :=
      ((Kept.refl _ _).put (p := ⟨ib, 0, none⟩) _ (fun _ => .inl rfl)).put (p := ⟨er, 0, none⟩) _ (fun _ => .inr rfl)
    have h2 : Below w.heap.size w wB := HB.out.trans (HBB.out.mono HB.out.size)
    exact h2.trans (h1.below h2.size (fun x hx h => by have := HAD.out; omega))

set_option maxRecDepth 100000 in
set_option maxHeartbeats 8000000 in
theorem clo42 {a0 : Addr} {k i c : Int} {t : Bs} {b : Dt} {bl : Option Addr} {bn bc : Nat} {cl : Option Addr} {cn cc : Nat} {l : Option Addr} {n cap : Nat} {k' i' c' : Int} {t' : Bs} {b' : Dt} {bl' : Option Addr} {bn' bc' : Nat} {cl' : Option Addr} {cn' cc' : Nat} {l' : Option Addr} {n' cap' : Nat} {S : Nat → Prop} {w : World} {p q : Nat} (hA : Blk w p (V11 k i c t b bl bn bc cl cn cc l n cap)) (hA2 : Blk w q (V11 k' i' c' t' b' bl' bn' bc' cl' cn' cc' l' n' cap'))
    (hF : FoAt S w b.l bl bn bc) (hG : FoAt S w b'.l bl' bn' bc') (hS : ∀ x, S x → x < w.heap.size) (h5 : k = 5 → okB b) (h5' : k' = 5 → okB b') (hL : LB a0 w) :
    Calls Tryz.prog 42 #[.pointer (some ⟨p, 0, none⟩), .pointer (some ⟨q, 0, none⟩)] w (EQE a0 (eqE k i c t b k' i' c' t' b') w) := by
  have HC := Lib.hid (eequalN (a0 := a0) (i := i) (c := c) (t := t) (cl := cl) (cn := cn) (cc := cc) (l := l) (n := n) (cap := cap) (i' := i') (c' := c') (t' := t') (cl' := cl') (cn' := cn') (cc' := cc') (l' := l') (n' := n') (cap' := cap') hF hG hS h5 h5' hL)
  unfold vE at HC
  have x0 := hA.cell 0 rfl; have y0 := hA2.cell 0 rfl
  have x1 := hA.cell 1 rfl; have y1 := hA2.cell 1 rfl
  have x2 := hA.cell 2 rfl; have y2 := hA2.cell 2 rfl
  have x3 := hA.cell 3 rfl; have y3 := hA2.cell 3 rfl
  have x4 := hA.cell 4 rfl; have y4 := hA2.cell 4 rfl
  have x5 := hA.cell 5 rfl; have y5 := hA2.cell 5 rfl
  have x6 := hA.cell 6 rfl; have y6 := hA2.cell 6 rfl
  have x7 := hA.cell 7 rfl; have y7 := hA2.cell 7 rfl
  have x8 := hA.cell 8 rfl; have y8 := hA2.cell 8 rfl
  have x9 := hA.cell 9 rfl; have y9 := hA2.cell 9 rfl
  have x10 := hA.cell 10 rfl; have y10 := hA2.cell 10 rfl
  have hN := eqE_nrm k i c t b k' i' c' t' b'
  generalize eqE k i c t b k' i' c' t' b' = r at *
  clear hA hA2 hF hG hS h5 h5' hL
  go_enter Tryz.func42, Tryz.ntmps42
  rcases hN with rfl | rfl | rfl
  · go_wp2_with (go_at_call 43; (with_reducible refine HC.out.mono ?_); rintro eB wB ⟨hB, ⟨_, rfl⟩ | ⟨hne9, _⟩⟩; rotate_left; (cases hne9); have HBB := Lib.hid hB; clear hB)
    go_ret
    exact ⟨HBB.out, .inl ⟨rfl, rfl⟩⟩
  · go_wp2_with (go_at_call 43; (with_reducible refine HC.out.mono ?_); rintro eB wB ⟨hB, ⟨_, rfl⟩ | ⟨hne9, _⟩⟩; rotate_left; (cases hne9); have HBB := Lib.hid hB; clear hB)
    go_ret
    exact ⟨HBB.out, .inl ⟨rfl, rfl⟩⟩
  · go_wp2_with (go_at_call 43; (with_reducible refine HC.out.mono ?_); rintro eB wB ⟨hB, ⟨hne9, _⟩ | ⟨_, rfl⟩⟩; (cases hne9); have HBB := Lib.hid hB; clear hB)
    exact ⟨rfl, HBB.out, .inr ⟨rfl, rfl⟩⟩
set_option maxRecDepth 100000 in
set_option maxHeartbeats 8000000 in
theorem equal12 {a0 : Addr} {k i c : Int} {t : Bs} {b : Dt} {bl : Option Addr} {bn bc : Nat} {cl : Option Addr} {cn cc : Nat} {l : Option Addr} {n cap : Nat} {k' i' c' : Int} {t' : Bs} {b' : Dt} {bl' : Option Addr} {bn' bc' : Nat} {cl' : Option Addr} {cn' cc' : Nat} {l' : Option Addr} {n' cap' : Nat} {S : Nat → Prop} {w : World}
    (hF : FoAt S w b.l bl bn bc) (hG : FoAt S w b'.l bl' bn' bc') (hS : ∀ x, S x → x < w.heap.size) (h5 : k = 5 → okB b) (h5' : k' = 5 → okB b') (hL : LB a0 w) :
    Calls Tryz.prog 12 #[vE k i c t b bl bn bc cl cn cc l n cap, vE k' i' c' t' b' bl' bn' bc' cl' cn' cc' l' n' cap'] w (fun e w' => e = .returned (.tuple #[.bool (eqE k i c t b k' i' c' t' b').1, .int .i64 (eqE k i c t b k' i' c' t' b').2]) ∧ Below w.heap.size w w') := by
  obtain ⟨hA, hA', hB, _⟩ := ebox2_facts w k i c t b bl bn bc cl cn cc l n cap k' i' c' t' b' bl' bn' bc' cl' cn' cc' l' n' cap'
  have hmf : ∀ (fn : Fn) (first cap : Array Value) (w : World), (Instr.makeFunc fn first cap).run Tryz.prog w = .ok (.func fn first cap) w := fun _ _ _ _ => rfl
  have hC : ∀ wx, Below (ebox2 w k i c t b bl bn bc cl cn cc l n cap k' i' c' t' b' bl' bn' bc' cl' cn' cc' l' n' cap').heap.size (ebox2 w k i c t b bl bn bc cl cn cc l n cap k' i' c' t' b' bl' bn' bc' cl' cn' cc' l' n' cap') wx → Calls Tryz.prog 42 #[.pointer (some ⟨w.heap.size, 0, none⟩), .pointer (some ⟨w.heap.size + 1, 0, none⟩)] wx (EQE a0 (eqE k i c t b k' i' c' t' b') wx) := fun wx hx =>
    clo42 (hA.below hx) (hA'.below hx) (hF.same (fun x _ hlt => (hB.trans (hx.mono hB.size)).block x hlt) (fun x hx2 _ => hx2)) (hG.same (fun x _ hlt => (hB.trans (hx.mono hB.size)).block x hlt) (fun x hx2 _ => hx2)) (fun x hx2 => Nat.lt_of_lt_of_le (hS x hx2) (Nat.le_trans hB.size hx.size)) h5 h5' ((hL.below hB).below hx)
  have HC := Lib.hid (comp42 (eqE_nrm k i c t b k' i' c' t' b') (hL.below hB) hC)
  have HB := Lib.hid hB
  generalize eqE k i c t b k' i' c' t' b' = r at *
  clear hF hG hS h5 h5' hL hC hA hA' hB
  unfold vE
  go_enter Tryz.func12, Tryz.ntmps12
  go_upto_region 1 with (fail)
  change Code.wp _ _ _ _ (ebox2 w k i c t b bl bn bc cl cn cc l n cap k' i' c' t' b' bl' bn' bc' cl' cn' cc' l' n' cap')
  generalize ebox2 w k i c t b bl bn bc cl cn cc l n cap k' i' c' t' b' bl' bn' bc' cl' cn' cc' l' n' cap' = w1 at *
  go_wp2_with (go_at_call 41; (with_reducible refine HC.out.mono ?_); rintro eB wB ⟨rfl, hB⟩; have HBB := Lib.hid hB; clear hB)
  go_ret2
  exact ⟨rfl, HB.out.trans (HBB.out.mono HB.out.size)⟩
end Go.Proofs.YtbldidiibkcelaaGreatDoor
