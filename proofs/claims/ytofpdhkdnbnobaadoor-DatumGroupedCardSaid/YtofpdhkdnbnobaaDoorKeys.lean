/-
  A map whose keys are the program's interface values: the check of a key, '==' at any depth, lookup and update (plain runs). Not a statement of the seat.
-/
import Derived.Test.YtofpdhkdnbnobaaDoorEqualW
import Derived.Test.YtofpdhkdnbnobaaDoorGroupP
import Derived.Laws.StructEq
namespace Go.Proofs.YtofpdhkdnbnobaaDoor
open Go.RowKit

/-- the check of a struct's fields -/
def ckFields (b : Bool) (n : Nat) (xs : Array Value) : List Field → Sem Unit
  | [] => pure ()
  | f :: fs =>
    if f.name ≠ "_" then do
      let a ← part f.type xs f.offset
      Instr.checkKey b n f.type a
      ckFields b n xs fs
    else ckFields b n xs fs
theorem run_checkKey_struct {P : Program} (w : World) (b : Bool) (n : Nat) (t : TypeId) (xs : Array Value) (ht : P.underlying t = some (.struct (P.fieldsOf t))) :
    (Instr.checkKey b (n + 1) t (.agg xs)).run P w = (ckFields b n xs (P.fieldsOf t).toList).run P w := by
  simp only [Instr.checkKey, Sem.run_bind, run_underlying ht, Result.andThen_ok]
  rw [← Array.forIn_toList]
  generalize (P.fieldsOf t).toList = fs
  clear ht
  induction fs generalizing w with
  | nil => simp [ckFields]
  | cons f fs ih =>
    simp only [List.forIn_cons, ckFields, Sem.run_bind, Sem.run_ite]
    split
    · generalize (part f.type xs f.offset).run P w = r1
      cases r1 with
      | ok a w1 =>
        simp only [Result.andThen_ok]
        generalize (Instr.checkKey b n f.type a).run P w1 = r2
        cases r2 with
        | ok c w2 =>
          simp only [Result.andThen_ok, Sem.run_pure]
          exact ih w2
        | halt x w2 => simp [Result.andThen]
      | halt x w1 => simp [Result.andThen]
    · simp only [Sem.run_pure, Result.andThen_ok]
      exact ih w
theorem cki (b : Bool) (n : Nat) (x y : Value) (w : World) : (Instr.checkKey b (n + 1) 20 (.iface 116 (.agg #[x, y]))).run Tryd.prog w = (Instr.checkKey b n 116 (.agg #[x, y])).run Tryd.prog w := by
  obtain ⟨i0, hi0, hc⟩ := Option.map_eq_some_iff.1 (show ((Tryd.prog.info? 116).map (fun i => i.comparable)) = some true by kernel_rfl)
  conv => lhs; unfold Instr.checkKey
  simp [run_underlying Tryd.underlying20, typeInfo, hi0, hc]
theorem two_fields {α : Type} {g : Field → α} {fs : List Field} {a b : α} (h : fs.map g = [a, b]) : ∃ f0 f1, fs = [f0, f1] ∧ g f0 = a ∧ g f1 = b := by
  rcases fs with _ | ⟨f0, _ | ⟨f1, _ | ⟨_, _⟩⟩⟩ <;> simp at h
  exact ⟨f0, f1, rfl, h.1, h.2⟩
theorem pairFields : (Tryd.prog.fieldsOf 116).toList.map (fun f => (f.name, f.type, f.offset)) = [("first", 20, 0), ("second", 20, 1)] := by kernel_rfl
theorem ck116 (b : Bool) (n : Nat) (x y : Value) (w : World) : (Instr.checkKey b (n + 2) 20 (.iface 116 (.agg #[x, y]))).run Tryd.prog w = ((Instr.checkKey b n 20 x).run Tryd.prog w).andThen fun _ w' => ((Instr.checkKey b n 20 y).run Tryd.prog w').andThen fun _ w'' => .ok () w'' := by
  have p0 : ∀ (w : World) (a b : Value), (part 20 #[a, b] 0).run Tryd.prog w = .ok a w := fun w a b => by kernel_rfl
  have p1 : ∀ (w : World) (a b : Value), (part 20 #[a, b] 1).run Tryd.prog w = .ok b w := fun w a b => by kernel_rfl
  rw [show n + 2 = (n + 1) + 1 from rfl, cki, run_checkKey_struct w b n 116 _ (by kernel_rfl)]
  obtain ⟨f0, f1, hf, h0, h1⟩ := two_fields pairFields
  rw [hf]
  · simp only [Prod.mk.injEq] at h0 h1
    obtain ⟨a1, a2, a3⟩ := h0
    obtain ⟨b1, b2, b3⟩ := h1
    simp only [ckFields, a1, a2, a3, b1, b2, b3, Sem.run_bind, Sem.run_ite, p0, p1, Result.andThen_ok, Sem.run_pure]
    simp
theorem q116 (d : Nat) (x y x' y' : Value) (w : World) : (Op.equalIn (d + 2) 20 (.iface 116 (.agg #[x, y])) (.iface 116 (.agg #[x', y']))).run Tryd.prog w =
    ((Op.equalIn d 20 x x').run Tryd.prog w).andThen fun r w' => if r then ((Op.equalIn d 20 y y').run Tryd.prog w').andThen fun s w'' => .ok s w'' else .ok false w' := by
  have hi : (Op.equalIn (d + 2) 20 (.iface 116 (.agg #[x, y])) (.iface 116 (.agg #[x', y']))).run Tryd.prog w = (Op.equalIn (d + 1) 116 (.agg #[x, y]) (.agg #[x', y'])).run Tryd.prog w := by
    obtain ⟨i0, hi0, hc⟩ := Option.map_eq_some_iff.1 (show ((Tryd.prog.info? 116).map (fun i => i.comparable)) = some true by kernel_rfl)
    conv => lhs; unfold Op.equalIn
    simp [run_underlying Tryd.underlying20, typeInfo, hi0, hc]
  have p0 : ∀ (w : World) (a b : Value), (part 20 #[a, b] 0).run Tryd.prog w = .ok a w := fun w a b => by kernel_rfl
  have p1 : ∀ (w : World) (a b : Value), (part 20 #[a, b] 1).run Tryd.prog w = .ok b w := fun w a b => by kernel_rfl
  rw [hi, run_equalIn_struct w d 116 _ _ (by kernel_rfl) (by kernel_rfl)]
  obtain ⟨f0, f1, hf, h0, h1⟩ := two_fields pairFields
  rw [hf]
  · simp only [Prod.mk.injEq] at h0 h1
    obtain ⟨a1, a2, a3⟩ := h0
    obtain ⟨b1, b2, b3⟩ := h1
    simp only [Op.eqFields, a1, a2, a3, b1, b2, b3, Sem.run_bind, Sem.run_ite, p0, p1, Result.andThen_ok, Sem.run_pure]
    generalize (Op.equalIn d 20 x x').run Tryd.prog w = r1
    cases r1 with
    | halt => simp [Result.andThen]
    | ok a w1 =>
      cases a
      · simp
      · simp only [Result.andThen_ok]
        generalize (Op.equalIn d 20 y y').run Tryd.prog w1 = r2
        cases r2 with
        | halt => simp [Result.andThen]
        | ok a w1 => cases a <;> simp
theorem qd107 (d : Nat) (i j : Int) (w : World) : (Op.equalIn (d + 3) 20 (.iface 107 (.int .i64 i)) (.iface 107 (.int .i64 j))).run Tryd.prog w = .ok (i == j) w := by kernel_rfl
theorem qd108 (d : Nat) (i j : Int) (w : World) : (Op.equalIn (d + 3) 20 (.iface 108 (.int .i64 i)) (.iface 108 (.int .i64 j))).run Tryd.prog w = .ok (i == j) w := by kernel_rfl
theorem qd109 (d : Nat) (b b' : Nat) (w : World) : (Op.equalIn (d + 3) 20 (.iface 109 (.float .f64 b)) (.iface 109 (.float .f64 b'))).run Tryd.prog w = .ok (Op.floatEq .f64 b b') w := by kernel_rfl
theorem qd110 (d : Nat) (t t' : ByteArray) (w : World) : (Op.equalIn (d + 3) 20 (.iface 110 (.string t)) (.iface 110 (.string t'))).run Tryd.prog w = .ok (t == t') w := by kernel_rfl
theorem qd111 (d : Nat) (t t' : ByteArray) (w : World) : (Op.equalIn (d + 3) 20 (.iface 111 (.string t)) (.iface 111 (.string t'))).run Tryd.prog w = .ok (t == t') w := by kernel_rfl
theorem qd112 (d : Nat) (a b : Bool) (w : World) : (Op.equalIn (d + 3) 20 (.iface 112 (.bool a)) (.iface 112 (.bool b))).run Tryd.prog w = .ok (a == b) w := by kernel_rfl
theorem qd119n (d : Nat) (w : World) : (Op.equalIn (d + 3) 20 (.iface 119 (.pointer none)) (.iface 119 (.pointer none))).run Tryd.prog w = .ok true w := by kernel_rfl
theorem qd119l (d : Nat) (a : Addr) (w : World) : (Op.equalIn (d + 3) 20 (.iface 119 (.pointer none)) (.iface 119 (.pointer (some a)))).run Tryd.prog w = .ok false w := by kernel_rfl
theorem qd119r (d : Nat) (a : Addr) (w : World) : (Op.equalIn (d + 3) 20 (.iface 119 (.pointer (some a))) (.iface 119 (.pointer none))).run Tryd.prog w = .ok false w := by kernel_rfl
theorem qd123 (d : Nat) (w : World) : (Op.equalIn (d + 3) 20 (.iface 123 (.agg #[])) (.iface 123 (.agg #[]))).run Tryd.prog w = .ok true w := by kernel_rfl
theorem qdnil (d : Nat) (w : World) : (Op.equalIn (d + 3) 20 .nilIface .nilIface).run Tryd.prog w = .ok true w := by kernel_rfl
theorem qdnl (d : Nat) (t : TypeId) (v : Value) (w : World) : (Op.equalIn (d + 3) 20 .nilIface (.iface t v)).run Tryd.prog w = .ok false w := by kernel_rfl
theorem qdnr (d : Nat) (t : TypeId) (v : Value) (w : World) : (Op.equalIn (d + 3) 20 (.iface t v) .nilIface).run Tryd.prog w = .ok false w := by kernel_rfl
theorem qdne (d : Nat) (t u : TypeId) (x y : Value) (h : t ≠ u) (w : World) : (Op.equalIn (d + 3) 20 (.iface t x) (.iface u y)).run Tryd.prog w = .ok false w := by
  conv => lhs; unfold Op.equalIn
  simp [run_underlying Tryd.underlying20, h]
theorem qd118 (d : Nat) (i j : Int) (t t' : ByteArray) (w : World) : (Op.equalIn (d + 3) 20 (.iface 118 (.agg #[.int .i64 i, .string t])) (.iface 118 (.agg #[.int .i64 j, .string t']))).run Tryd.prog w = .ok (i == j && t == t') w := by
  have h1 : (Op.equalIn (d + 3) 20 (.iface 118 (.agg #[.int .i64 i, .string t])) (.iface 118 (.agg #[.int .i64 j, .string t']))).run Tryd.prog w = (Op.equalIn (d + 2) 118 (.agg #[.int .i64 i, .string t]) (.agg #[.int .i64 j, .string t'])).run Tryd.prog w := by
    obtain ⟨i0, hi0, hc⟩ := Option.map_eq_some_iff.1 (show ((Tryd.prog.info? 118).map (fun i => i.comparable)) = some true by kernel_rfl)
    conv => lhs; unfold Op.equalIn
    simp [run_underlying Tryd.underlying20, typeInfo, hi0, hc]
  have hf : (Tryd.prog.fieldsOf 118).toList.map (fun f => (f.name, f.type, f.offset)) = [("code", 2, 0), ("words", 9, 1)] := by kernel_rfl
  have p0 : ∀ (w : World) (a b : Value), (part 2 #[a, b] 0).run Tryd.prog w = .ok a w := fun w a b => by kernel_rfl
  have p1 : ∀ (w : World) (a b : Value), (part 9 #[a, b] 1).run Tryd.prog w = .ok b w := fun w a b => by kernel_rfl
  have e0 : (Op.equalIn (d + 1) 2 (.int .i64 i) (.int .i64 j)).run Tryd.prog w = .ok (i == j) w := by kernel_rfl
  have e1 : (Op.equalIn (d + 1) 9 (.string t) (.string t')).run Tryd.prog w = .ok (t == t') w := by kernel_rfl
  rw [h1, show d + 2 = (d + 1) + 1 from rfl, run_equalIn_struct w (d + 1) 118 _ _ (by kernel_rfl) (by kernel_rfl)]
  obtain ⟨f0, f1, hg, h0, h2⟩ := two_fields hf
  rw [hg]
  · simp only [Prod.mk.injEq] at h0 h2
    obtain ⟨a1, a2, a3⟩ := h0
    obtain ⟨b1, b2, b3⟩ := h2
    simp only [Op.eqFields, a1, a2, a3, b1, b2, b3, Sem.run_bind, Sem.run_ite, p0, p1, e0, e1, Result.andThen_ok, Sem.run_pure]
    cases i == j <;> cases t == t' <;> simp

theorem ck_one {T : TypeId} {v : Value} (h : ∀ (b : Bool) (n : Nat) (w : World), (Instr.checkKey b (n + 3) 20 (.iface T v)).run Tryd.prog w = .ok () w) (b : Bool) {n : Nat} (hn : 3 ≤ n) (w : World) : (Instr.checkKey b n 20 (.iface T v)).run Tryd.prog w = .ok () w := by
  rw [show n = (n - 3) + 3 by omega]
  exact h b _ w
theorem ck_nil (b : Bool) {n : Nat} (hn : 3 ≤ n) (w : World) : (Instr.checkKey b n 20 .nilIface).run Tryd.prog w = .ok () w := by
  rw [show n = (n - 3) + 3 by omega]
  generalize n - 3 = m
  kernel_rfl
def isPu (r : Result Unit) (w : World) : Prop := match r with | .halt (.panic (.iface _ _)) w' => w' = w | _ => False
theorem isPu.of {r : Result Unit} {w : World} (h : isPu r w = (w = w)) : ∃ u v, r = .halt (.panic (.iface u v)) w := by
  rw [eq_self] at h
  have h' := of_eq_true h
  unfold isPu at h'
  split at h'
  · exact ⟨_, _, by rw [h']⟩
  · cases h'
theorem ck113 (b : Bool) (n : Nat) (v : Value) (w : World) : ∃ x y, (Instr.checkKey b (n + 3) 20 (.iface 113 v)).run Tryd.prog w = .halt (.panic (.iface x y)) w := by
  cases b
  · have h : isPu ((Instr.checkKey false (n + 3) 20 (.iface 113 v)).run Tryd.prog w) w = (w = w) := by kernel_rfl
    exact isPu.of h
  · have h : isPu ((Instr.checkKey true (n + 3) 20 (.iface 113 v)).run Tryd.prog w) w = (w = w) := by kernel_rfl
    exact isPu.of h
theorem ck114 (b : Bool) (n : Nat) (v : Value) (w : World) : ∃ x y, (Instr.checkKey b (n + 3) 20 (.iface 114 v)).run Tryd.prog w = .halt (.panic (.iface x y)) w := by
  cases b
  · have h : isPu ((Instr.checkKey false (n + 3) 20 (.iface 114 v)).run Tryd.prog w) w = (w = w) := by kernel_rfl
    exact isPu.of h
  · have h : isPu ((Instr.checkKey true (n + 3) 20 (.iface 114 v)).run Tryd.prog w) w = (w = w) := by kernel_rfl
    exact isPu.of h

/-- what the check of a key comes to -/
def CKR (ok : Bool) (r : Result Unit) (w : World) : Prop := (ok = true ∧ r = .ok () w) ∨ (ok = false ∧ ∃ x y, r = .halt (.panic (.iface x y)) w)
def CKOK (kids : Fo) : Prop := ∀ (k i b : Int) (t : Bs) (x : Value) (M : BM) (c : Bool) (n : Nat) (w : World), 0 ≤ k → k ≤ 13 → vOne M k i b t (ValF M kids) x → rightM kids = true → 2 * hiF kids + 3 ≤ n → CKR (keyOne k (keyF kids)) ((Instr.checkKey c n 20 x).run Tryd.prog w) w
theorem ckN {kids : Fo} (hall : kids.All CKOK) : CKOK kids := by
  intro k i b t x M c n w h0 h13 hx hr hn
  have hk : k = 0 ∨ k = 1 ∨ k = 2 ∨ k = 3 ∨ k = 4 ∨ k = 5 ∨ k = 6 ∨ k = 7 ∨ k = 8 ∨ k = 9 ∨ k = 10 ∨ k = 11 ∨ k = 12 ∨ k = 13 := by omega
  rcases hk with rfl | rfl | rfl | rfl | rfl | rfl | rfl | rfl | rfl | rfl | rfl | rfl | rfl | rfl <;> simp [vOne] at hx
  · subst hx; exact .inl ⟨rfl, ck_nil c (by omega) w⟩
  · subst hx; exact .inl ⟨rfl, ck_one (fun b n w => by kernel_rfl) c (by omega) w⟩
  · subst hx; exact .inl ⟨rfl, ck_one (fun b n w => by kernel_rfl) c (by omega) w⟩
  · subst hx; exact .inl ⟨rfl, ck_one (fun b n w => by kernel_rfl) c (by omega) w⟩
  · subst hx; exact .inl ⟨rfl, ck_one (fun b n w => by kernel_rfl) c (by omega) w⟩
  · subst hx; exact .inl ⟨rfl, ck_one (fun b n w => by kernel_rfl) c (by omega) w⟩
  · subst hx; exact .inl ⟨rfl, ck_one (fun b n w => by kernel_rfl) c (by omega) w⟩
  · obtain ⟨_, _, _, rfl⟩ := hx
    refine .inr ⟨rfl, ?_⟩
    rw [show n = (n - 3) + 3 by omega]
    exact ck113 _ _ _ _
  · obtain ⟨_, _, _, rfl⟩ := hx
    refine .inr ⟨rfl, ?_⟩
    rw [show n = (n - 3) + 3 by omega]
    exact ck114 _ _ _ _
  · obtain ⟨x1, x2, hv, rfl⟩ := hx
    obtain ⟨k1, i1, b1, t1, ks1, k2, i2, b2, t2, ks2, rfl, v1, v2⟩ := hv.two
    simp only [rightM, Bool.and_eq_true] at hr
    simp only [hiF] at hn
    have f1 := fits_k hr.1.1
    have f2 := fits_k hr.2.1.1
    have c1 := hall.1 k1 i1 b1 t1 x1 M c (n - 2) w f1.1 f1.2 v1 hr.1.2 (by omega)
    have c2 := hall.2.1 k2 i2 b2 t2 x2 M c (n - 2) w f2.1 f2.2 v2 hr.2.1.2 (by omega)
    rw [show n = (n - 2) + 2 by omega, ck116]
    simp only [keyOne, if_true, keyF]
    simp only [keyOne] at c1 c2
    rcases c1 with ⟨h1, e1⟩ | ⟨h1, u, v, e1⟩
    · rcases c2 with ⟨h2, e2⟩ | ⟨h2, u, v, e2⟩
      · rw [h1, h2, e1]
        simp only [Result.andThen_ok, e2]
        exact .inl ⟨rfl, rfl⟩
      · rw [h1, h2, e1]
        simp only [Result.andThen_ok, e2]
        exact .inr ⟨rfl, u, v, rfl⟩
    · rw [h1, e1]
      exact .inr ⟨rfl, u, v, rfl⟩
  · subst hx; exact .inl ⟨rfl, ck_one (fun b n w => by kernel_rfl) c (by omega) w⟩
  · obtain ⟨_, _, rfl⟩ := hx; exact .inl ⟨rfl, ck_one (fun b n w => by kernel_rfl) c (by omega) w⟩
  · subst hx; exact .inl ⟨rfl, ck_one (fun b n w => by kernel_rfl) c (by omega) w⟩
  · subst hx; exact .inl ⟨rfl, ck_one (fun b n w => by kernel_rfl) c (by omega) w⟩
theorem ckAll : ∀ f : Fo, f.All CKOK
  | .nil => trivial
  | .cons _ _ _ _ kids rest => ⟨ckN (ckAll kids), ckAll rest⟩
theorem ckG (kids : Fo) : CKOK kids := ckN (ckAll kids)
end Go.Proofs.YtofpdhkdnbnobaaDoor
