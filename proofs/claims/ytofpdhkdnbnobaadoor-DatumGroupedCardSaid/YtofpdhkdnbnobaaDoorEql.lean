/-
  '==' of two interface values of this program (plain runs). Not a statement of the seat.
-/
import Derived.Test.YtofpdhkdnbnobaaDoorREqual
import Derived.Stop.Asserts
namespace Go.Proofs.YtofpdhkdnbnobaaDoor
open Go.RowKit
theorem q107 (i j : Int) (w : World) : (binOp .eql 20 (.iface 107 (.int .i64 i)) (.iface 107 (.int .i64 j))).run Tryd.prog w = .ok (.bool (i == j)) w := by kernel_rfl
theorem q108 (i j : Int) (w : World) : (binOp .eql 20 (.iface 108 (.int .i64 i)) (.iface 108 (.int .i64 j))).run Tryd.prog w = .ok (.bool (i == j)) w := by kernel_rfl
theorem q109 (b b' : Int) (w : World) : (binOp .eql 20 (.iface 109 (.float .f64 b.toNat)) (.iface 109 (.float .f64 b'.toNat))).run Tryd.prog w = .ok (.bool (feq b b')) w := by kernel_rfl
theorem q110 (t t' : ByteArray) (w : World) : (binOp .eql 20 (.iface 110 (.string t)) (.iface 110 (.string t'))).run Tryd.prog w = .ok (.bool (t == t')) w := by kernel_rfl
theorem q111 (t t' : ByteArray) (w : World) : (binOp .eql 20 (.iface 111 (.string t)) (.iface 111 (.string t'))).run Tryd.prog w = .ok (.bool (t == t')) w := by kernel_rfl
theorem q112 (a b : Bool) (w : World) : (binOp .eql 20 (.iface 112 (.bool a)) (.iface 112 (.bool b))).run Tryd.prog w = .ok (.bool (a == b)) w := by kernel_rfl
theorem q118 (i j : Int) (t t' : ByteArray) (w : World) : (binOp .eql 20 (.iface 118 (.agg #[.int .i64 i, .string t])) (.iface 118 (.agg #[.int .i64 j, .string t']))).run Tryd.prog w = .ok (.bool (i == j && t == t')) w := by
  have h1 : ∀ x y : Value, (binOp .eql 20 (.iface 118 x) (.iface 118 y)).run Tryd.prog w = ((Op.equalIn 9999 118 x y).run Tryd.prog w).andThen fun b w' => .ok (.bool b) w' := by
    intro x y
    have hi : ((Tryd.prog.info? 118).map (fun i => i.comparable)) = some true := by kernel_rfl
    obtain ⟨i0, hi0, hc⟩ := Option.map_eq_some_iff.1 hi
    have h : (Op.equalIn 10000 20 (.iface 118 x) (.iface 118 y)).run Tryd.prog w = (Op.equalIn 9999 118 x y).run Tryd.prog w := by
      generalize hd : (9999 : Nat) = d
      rw [show (10000 : Nat) = d + 1 from by omega]
      conv => lhs; unfold Op.equalIn
      simp [run_underlying Tryd.underlying20, typeInfo, hi0, hc]
    simp only [binOp]
    simp [Op.equal, Op.maxDepth, h]
  have hf : (Tryd.prog.fieldsOf 118).toList = [{ name := "code", type := 2, offset := 0, embedded := false, tag := "", pkgPath := "conduit/datum", byteOffset := 0 }, { name := "words", type := 9, offset := 1, embedded := false, tag := "", pkgPath := "conduit/datum", byteOffset := 8 }] := by kernel_rfl
  have p0 : ∀ (a b : Value), (part 2 #[a, b] 0).run Tryd.prog w = .ok a w := fun a b => by kernel_rfl
  have p1 : ∀ (a b : Value), (part 9 #[a, b] 1).run Tryd.prog w = .ok b w := fun a b => by kernel_rfl
  have e0 : (Op.equalIn 9998 2 (.int .i64 i) (.int .i64 j)).run Tryd.prog w = .ok (i == j) w := by kernel_rfl
  have e1 : (Op.equalIn 9998 9 (.string t) (.string t')).run Tryd.prog w = .ok (t == t') w := by kernel_rfl
  rw [h1, show (9999 : Nat) = 9998 + 1 from rfl, run_equalIn_struct w 9998 118 _ _ (by kernel_rfl) (by kernel_rfl), hf]
  simp only [Op.eqFields, Sem.run_bind, p0, p1, e0, e1, Result.andThen_ok, Sem.run_ite]
  cases i == j <;> cases t == t' <;> simp [Result.andThen_ok]
theorem q119n (w : World) : (binOp .eql 20 (.iface 119 (.pointer none)) (.iface 119 (.pointer none))).run Tryd.prog w = .ok (.bool true) w := by kernel_rfl
theorem q119l (a : Addr) (w : World) : (binOp .eql 20 (.iface 119 (.pointer none)) (.iface 119 (.pointer (some a)))).run Tryd.prog w = .ok (.bool false) w := by kernel_rfl
theorem q119r (a : Addr) (w : World) : (binOp .eql 20 (.iface 119 (.pointer (some a))) (.iface 119 (.pointer none))).run Tryd.prog w = .ok (.bool false) w := by kernel_rfl
theorem q123 (w : World) : (binOp .eql 20 (.iface 123 (.agg #[])) (.iface 123 (.agg #[]))).run Tryd.prog w = .ok (.bool true) w := by kernel_rfl
theorem qnil (w : World) : (binOp .eql 20 .nilIface .nilIface).run Tryd.prog w = .ok (.bool true) w := by kernel_rfl
theorem qnl (t : TypeId) (v : Value) (w : World) : (binOp .eql 20 .nilIface (.iface t v)).run Tryd.prog w = .ok (.bool false) w := by kernel_rfl
theorem qnr (t : TypeId) (v : Value) (w : World) : (binOp .eql 20 (.iface t v) .nilIface).run Tryd.prog w = .ok (.bool false) w := by kernel_rfl
theorem qne (t u : TypeId) (x y : Value) (h : t ≠ u) (w : World) : (binOp .eql 20 (.iface t x) (.iface u y)).run Tryd.prog w = .ok (.bool false) w := run_eql_iface_types t u x y Tryd.underlying20 h w
def isPw (r : Result Value) (w : World) : Prop := match r with | .halt (.panic (.iface _ _)) w' => w' = w | _ => False
theorem isPw.out {r : Result Value} {w : World} (h : isPw r w) : ∃ u v, r = .halt (.panic (.iface u v)) w := by
  unfold isPw at h
  split at h
  · exact ⟨_, _, by rw [h]⟩
  · cases h
theorem isPw.of {r : Result Value} {w : World} (h : isPw r w = (w = w)) : ∃ u v, r = .halt (.panic (.iface u v)) w := by
  rw [eq_self] at h
  exact isPw.out (of_eq_true h)
theorem q113 (x y : Value) (w : World) : ∃ u v, (binOp .eql 20 (.iface 113 x) (.iface 113 y)).run Tryd.prog w = .halt (.panic (.iface u v)) w := by
  have h : isPw ((binOp .eql 20 (.iface 113 x) (.iface 113 y)).run Tryd.prog w) w = (w = w) := by kernel_rfl
  exact isPw.of h
theorem q114 (x y : Value) (w : World) : ∃ u v, (binOp .eql 20 (.iface 114 x) (.iface 114 y)).run Tryd.prog w = .halt (.panic (.iface u v)) w := by
  have h : isPw ((binOp .eql 20 (.iface 114 x) (.iface 114 y)).run Tryd.prog w) w = (w = w) := by kernel_rfl
  exact isPw.of h
theorem ta_no (t : TypeId) (v : Value) (w : World) (h : t ≠ 116) : (Instr.typeAssert (.iface t v) 20 116 true).run Tryd.prog w = .ok (.tuple #[.agg #[.nilIface, .nilIface], .bool false]) w := by
  have hz : (zeroValue 116).run Tryd.prog w = .ok (.agg #[.nilIface, .nilIface]) w := by kernel_rfl
  simp [Instr.typeAssert, run_underlying Tryd.underlying116, h, hz]
theorem ta_nil (w : World) : (Instr.typeAssert .nilIface 20 116 true).run Tryd.prog w = .ok (.tuple #[.agg #[.nilIface, .nilIface], .bool false]) w := by kernel_rfl
theorem ta_yes (v : Value) (w : World) : (Instr.typeAssert (.iface 116 v) 20 116 true).run Tryd.prog w = .ok (.tuple #[v, .bool true]) w := by kernel_rfl

theorem ba_beq (t t' : Bs) : ((⟨t.toArray⟩ : ByteArray) == ⟨t'.toArray⟩) = (t == t') := by
  show (t.toArray == t'.toArray) = _
  simp
theorem q119s (a : Addr) (w : World) : (binOp .eql 20 (.iface 119 (.pointer (some a))) (.iface 119 (.pointer (some a)))).run Tryd.prog w = .ok (.bool true) w := by
  obtain ⟨i, hi, hc⟩ := Option.map_eq_some_iff.1 (show ((Tryd.prog.info? 119).map (fun i => i.comparable)) = some true by kernel_rfl)
  obtain ⟨j, hj, _⟩ := Option.map_eq_some_iff.1 (show ((Tryd.prog.info? 121).map (fun i => i.size)) = some 2 by kernel_rfl)
  exact run_eql_iface_ptr_same w a Tryd.underlying20 Tryd.underlying119 hi hc hj
theorem q119o {a b : Nat} {w : World} (ha : Cl w a) (hb : Cl w b) (hne : a ≠ b) : (binOp .eql 20 (.iface 119 (.pointer (some ⟨a, 0, none⟩))) (.iface 119 (.pointer (some ⟨b, 0, none⟩)))).run Tryd.prog w = .ok (.bool false) w := by
  obtain ⟨i, hi, hc⟩ := Option.map_eq_some_iff.1 (show ((Tryd.prog.info? 119).map (fun i => i.comparable)) = some true by kernel_rfl)
  obtain ⟨j, hj, hs⟩ := Option.map_eq_some_iff.1 (show ((Tryd.prog.info? 121).map (fun i => i.size)) = some 2 by kernel_rfl)
  obtain ⟨ca, ta, ha⟩ := ha
  obtain ⟨cb, tb, hb⟩ := hb
  exact run_eql_iface_ptr_other w Tryd.underlying20 Tryd.underlying119 hi hc hj (by omega) (fun e => hne (by cases e; rfl)) ha hb

/-- the dynamic type of a kind -/
def tagOf (k : Int) : Nat := if k ≤ 8 then (106 + k).toNat else if k = 9 then 116 else if k = 10 then 118 else if k = 13 then 123 else 119
theorem vOne.tag {M : BM} {k i b : Int} {t : Bs} {P : List Value → Prop} {x : Value} (h : vOne M k i b t P x) (h1 : 1 ≤ k) (h2 : k ≤ 13) : ∃ v, x = .iface (tagOf k) v := by
  have hk : k = 1 ∨ k = 2 ∨ k = 3 ∨ k = 4 ∨ k = 5 ∨ k = 6 ∨ k = 7 ∨ k = 8 ∨ k = 9 ∨ k = 10 ∨ k = 11 ∨ k = 12 ∨ k = 13 := by omega
  rcases hk with rfl | rfl | rfl | rfl | rfl | rfl | rfl | rfl | rfl | rfl | rfl | rfl | rfl <;> simp [vOne] at h
  · exact ⟨_, h⟩
  · exact ⟨_, h⟩
  · exact ⟨_, h⟩
  · exact ⟨_, h⟩
  · exact ⟨_, h⟩
  · exact ⟨_, h⟩
  · obtain ⟨_, _, _, h⟩ := h; exact ⟨_, h⟩
  · obtain ⟨_, _, _, h⟩ := h; exact ⟨_, h⟩
  · obtain ⟨_, _, _, h⟩ := h; exact ⟨_, h⟩
  · exact ⟨_, h⟩
  · obtain ⟨_, _, h⟩ := h; exact ⟨_, h⟩
  · exact ⟨_, h⟩
  · exact ⟨_, h⟩
theorem tag_inj {k k' : Int} (h1 : 1 ≤ k) (h2 : k ≤ 13) (h3 : 1 ≤ k') (h4 : k' ≤ 13) (e : tagOf k = tagOf k') : k = k' ∨ (k = 11 ∧ k' = 12) ∨ (k = 12 ∧ k' = 11) := by
  unfold tagOf at e
  repeat' split at e
  all_goals omega
theorem fits_k {k i b : Int} {t : Bs} {n : Nat} (h : fitsM k i b t n = true) : 0 ≤ k ∧ k ≤ 13 := by
  simp only [fitsM, Bool.and_eq_true, decide_eq_true_eq] at h
  exact h.1.1.1.1.1.1.1

/-- '==' of two values that are not both pairs -/
theorem eq_run {M : BM} {mb : Nat} {k i b k' i' b' : Int} {t t' : Bs} {n n' : Nat} {P P' : List Value → Prop} {x y : Value} {w : World} (hB : BxM M mb w) (hx : vOne M k i b t P x) (hy : vOne M k' i' b' t' P' y)
    (h9 : ¬ (k = 9 ∧ k' = 9)) (hf : fitsM k i b t n = true) (hf' : fitsM k' i' b' t' n' = true) (pp : Bool × Int) :
    ((eqOne k i b t k' i' b' t' pp).2 = 0 ∧ (binOp .eql 20 x y).run Tryd.prog w = .ok (.bool (eqOne k i b t k' i' b' t' pp).1) w) ∨ (eqOne k i b t k' i' b' t' pp = (false, 10) ∧ ∃ u v, (binOp .eql 20 x y).run Tryd.prog w = .halt (.panic (.iface u v)) w) := by
  obtain ⟨h0, h13⟩ := fits_k hf
  obtain ⟨h0', h13'⟩ := fits_k hf'
  by_cases hk : k = k'
  · subst hk
    have hk : k = 0 ∨ k = 1 ∨ k = 2 ∨ k = 3 ∨ k = 4 ∨ k = 5 ∨ k = 6 ∨ k = 7 ∨ k = 8 ∨ k = 10 ∨ k = 11 ∨ k = 12 ∨ k = 13 := by omega
    rcases hk with rfl | rfl | rfl | rfl | rfl | rfl | rfl | rfl | rfl | rfl | rfl | rfl | rfl <;> simp [vOne] at hx hy <;> simp [fitsM] at hf hf'
    · subst hx; subst hy
      refine .inl ⟨rfl, ?_⟩
      rw [qnil]; simp [eqOne, hf, hf']
    · subst hx; subst hy
      refine .inl ⟨rfl, ?_⟩
      rw [q107]; simp [eqOne, hf, hf']
    · subst hx; subst hy
      refine .inl ⟨rfl, ?_⟩
      rw [q108]; simp [eqOne, hf, hf']
    · subst hx; subst hy
      refine .inl ⟨rfl, ?_⟩
      rw [q109]; simp [eqOne]
    · subst hx; subst hy
      refine .inl ⟨rfl, ?_⟩
      rw [q110, ba_beq]; simp [eqOne, hf, hf']
    · subst hx; subst hy
      refine .inl ⟨rfl, ?_⟩
      rw [q111, ba_beq]; simp [eqOne, hf, hf']
    · subst hx; subst hy
      refine .inl ⟨rfl, ?_⟩
      rw [q112]; simp [eqOne, hf, hf']
      rcases hf.1.1.1.1 with rfl | rfl <;> rcases hf'.1.1.1.1 with rfl | rfl <;> rfl
    · obtain ⟨_, _, _, rfl⟩ := hx
      obtain ⟨_, _, _, rfl⟩ := hy
      exact .inr ⟨rfl, q113 _ _ w⟩
    · obtain ⟨_, _, _, rfl⟩ := hx
      obtain ⟨_, _, _, rfl⟩ := hy
      exact .inr ⟨rfl, q114 _ _ w⟩
    · subst hx; subst hy
      refine .inl ⟨rfl, ?_⟩
      rw [q118, ba_beq]; simp [eqOne]
    · obtain ⟨b1, h1, rfl⟩ := hx
      obtain ⟨b2, h2, rfl⟩ := hy
      refine .inl ⟨rfl, ?_⟩
      have ho := hB.one h1 h2
      simp only at ho
      by_cases e : b1 = b2
      · subst e
        rw [q119s]; simp [eqOne, hf, hf', ho.2 rfl]
      · rw [q119o (hB.cl _ h1) (hB.cl _ h2) e]
        have hne : ¬ i = i' := fun h => e (ho.1 h)
        simp [eqOne, hf, hf', hne]
    · subst hx; subst hy
      refine .inl ⟨rfl, ?_⟩
      rw [q119n]; simp [eqOne, hf, hf']
    · subst hx; subst hy
      refine .inl ⟨rfl, ?_⟩
      rw [q123]; simp [eqOne, hf, hf']
  · refine .inl ⟨by simp [eqOne, hk], ?_⟩
    have hr : (eqOne k i b t k' i' b' t' pp).1 = false := by simp [eqOne, hk]
    rw [hr]
    by_cases hk0 : k = 0
    · subst hk0
      obtain ⟨v, rfl⟩ := hy.tag (by omega) h13'
      simp [vOne] at hx
      subst hx
      exact qnl _ _ w
    by_cases hk0' : k' = 0
    · subst hk0'
      obtain ⟨v, rfl⟩ := hx.tag (by omega) h13
      simp [vOne] at hy
      subst hy
      exact qnr _ _ w
    by_cases h1 : k = 11 ∧ k' = 12
    · obtain ⟨rfl, rfl⟩ := h1
      simp [vOne] at hx hy
      obtain ⟨_, _, rfl⟩ := hx
      subst hy
      exact q119r _ w
    by_cases h2 : k = 12 ∧ k' = 11
    · obtain ⟨rfl, rfl⟩ := h2
      simp [vOne] at hx hy
      obtain ⟨_, _, rfl⟩ := hy
      subst hx
      exact q119l _ w
    obtain ⟨v, rfl⟩ := hx.tag (by omega) h13
    obtain ⟨u, rfl⟩ := hy.tag (by omega) h13'
    refine qne _ _ _ _ (fun e => ?_) w
    have := tag_inj (by omega) h13 (by omega) h13' e
    omega
end Go.Proofs.YtofpdhkdnbnobaaDoor
