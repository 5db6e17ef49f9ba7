/-
  '==' of keys at any depth; lookup and update of a map whose keys are interface values (plain runs). Not a statement of the seat.
-/
import Derived.Test.YtofpdhkdnbnobaaDoorKeys
namespace Go.Proofs.YtofpdhkdnbnobaaDoor
open Go.RowKit

theorem qd119s (d : Nat) (a : Addr) (w : World) : (Op.equalIn (d + 3) 20 (.iface 119 (.pointer (some a))) (.iface 119 (.pointer (some a)))).run Tryd.prog w = .ok true w := by
  obtain ⟨i, hi, hc⟩ := Option.map_eq_some_iff.1 (show ((Tryd.prog.info? 119).map (fun i => i.comparable)) = some true by kernel_rfl)
  obtain ⟨j, hj, _⟩ := Option.map_eq_some_iff.1 (show ((Tryd.prog.info? 121).map (fun i => i.size)) = some 2 by kernel_rfl)
  exact run_equalIn_iface_ptr_same w (d + 1) a Tryd.underlying20 Tryd.underlying119 hi hc hj
theorem qd119o (d : Nat) {a b : Nat} {w : World} (ha : Cl w a) (hb : Cl w b) (hne : a ≠ b) : (Op.equalIn (d + 3) 20 (.iface 119 (.pointer (some ⟨a, 0, none⟩))) (.iface 119 (.pointer (some ⟨b, 0, none⟩)))).run Tryd.prog w = .ok false w := by
  obtain ⟨i, hi, hc⟩ := Option.map_eq_some_iff.1 (show ((Tryd.prog.info? 119).map (fun i => i.comparable)) = some true by kernel_rfl)
  obtain ⟨j, hj, hs⟩ := Option.map_eq_some_iff.1 (show ((Tryd.prog.info? 121).map (fun i => i.size)) = some 2 by kernel_rfl)
  obtain ⟨ca, ta, ha⟩ := ha
  obtain ⟨cb, tb, hb⟩ := hb
  exact run_equalIn_iface_ptr_other w (d + 1) Tryd.underlying20 Tryd.underlying119 hi hc hj (by omega) (fun e => hne (by cases e; rfl)) ha hb

def EIOK (kids : Fo) : Prop := ∀ (g : Fo) (k i b k' i' b' : Int) (t t' : Bs) (x y : Value) (M : BM) (mb d : Nat) (w : World), BxM M mb w → vOne M k i b t (ValF M kids) x → vOne M k' i' b' t' (ValF M g) y →
  keyOne k (keyF kids) = true → keyOne k' (keyF g) = true → fitsM k i b t kids.len = true → rightM kids = true → fitsM k' i' b' t' g.len = true → rightM g = true → 2 * hiF kids + 3 ≤ d →
  (Op.equalIn d 20 x y).run Tryd.prog w = .ok (eqOne k i b t k' i' b' t' (eqF kids g)).1 w
theorem eiN {kids : Fo} (hall : kids.All EIOK) : EIOK kids := by
  intro g k i b k' i' b' t t' x y M mb d w hB hx hy hk1 hk2 hf hr hf' hr' hd
  obtain ⟨h0, h13⟩ := fits_k hf
  obtain ⟨h0', h13'⟩ := fits_k hf'
  obtain ⟨n, rfl⟩ : ∃ n, d = n + 3 := ⟨d - 3, by omega⟩
  by_cases hk : k = k'
  · subst hk
    have hk : k = 0 ∨ k = 1 ∨ k = 2 ∨ k = 3 ∨ k = 4 ∨ k = 5 ∨ k = 6 ∨ k = 7 ∨ k = 8 ∨ k = 9 ∨ k = 10 ∨ k = 11 ∨ k = 12 ∨ k = 13 := by omega
    rcases hk with rfl | rfl | rfl | rfl | rfl | rfl | rfl | rfl | rfl | rfl | rfl | rfl | rfl | rfl <;> simp [vOne] at hx hy <;> (try simp [keyOne] at hk1) <;> simp [fitsM] at hf hf'
    · subst hx; subst hy
      rw [qdnil]; simp [eqOne, hf, hf']
    · subst hx; subst hy
      rw [qd107]; simp [eqOne, hf, hf']
    · subst hx; subst hy
      rw [qd108]; simp [eqOne, hf, hf']
    · subst hx; subst hy
      rw [qd109]; simp [eqOne, feq]
    · subst hx; subst hy
      rw [qd110, ba_beq]; simp [eqOne, hf, hf']
    · subst hx; subst hy
      rw [qd111, ba_beq]; simp [eqOne, hf, hf']
    · subst hx; subst hy
      rw [qd112]; simp [eqOne, hf, hf']
      rcases hf.1.1.1.1 with rfl | rfl <;> rcases hf'.1.1.1.1 with rfl | rfl <;> rfl
    · obtain ⟨x1, x2, hv, rfl⟩ := hx
      obtain ⟨y1, y2, hu, rfl⟩ := hy
      obtain ⟨k1, i1, b1, t1, ks1, k2, i2, b2, t2, ks2, rfl, v1, v2⟩ := hv.two
      obtain ⟨k3, i3, b3, t3, ks3, k4, i4, b4, t4, ks4, rfl, v3, v4⟩ := hu.two
      simp only [rightM, Bool.and_eq_true] at hr hr'
      simp only [hiF] at hd
      simp only [keyOne, if_true, keyF, Bool.and_eq_true] at hk1 hk2
      have c1 := hall.1 ks3 k1 i1 b1 k3 i3 b3 t1 t3 x1 y1 M mb (n + 1) w hB v1 v3 (by simpa [keyOne] using hk1.1) (by simpa [keyOne] using hk2.1) hr.1.1 hr.1.2 hr'.1.1 hr'.1.2 (by omega)
      have c2 := hall.2.1 ks4 k2 i2 b2 k4 i4 b4 t2 t4 x2 y2 M mb (n + 1) w hB v2 v4 (by simpa [keyOne] using hk1.2.1) (by simpa [keyOne] using hk2.2.1) hr.2.1.1 hr.2.1.2 hr'.2.1.1 hr'.2.1.2 (by omega)
      rw [show n + 3 = (n + 1) + 2 by omega, q116, c1]
      have h9 : eqOne 9 i b t 9 i' b' t' (eqF (.cons k1 i1 b1 t1 ks1 (.cons k2 i2 b2 t2 ks2 .nil)) (.cons k3 i3 b3 t3 ks3 (.cons k4 i4 b4 t4 ks4 .nil))) = if (eqOne k1 i1 b1 t1 k3 i3 b3 t3 (eqF ks1 ks3)).1 then (if (eqOne k2 i2 b2 t2 k4 i4 b4 t4 (eqF ks2 ks4)).1 then (true, 0) else eqOne k2 i2 b2 t2 k4 i4 b4 t4 (eqF ks2 ks4)) else eqOne k1 i1 b1 t1 k3 i3 b3 t3 (eqF ks1 ks3) := by
        simp [eqOne, eqF]
      rw [h9]
      simp only [Result.andThen_ok]
      have hn2 := eqOne_nrm (k := k2) (i := i2) (b := b2) (t := t2) (k' := k4) (i' := i4) (b' := b4) (t' := t4) (eqF_nrm ks2 ks4)
      have hn1 := eqOne_nrm (k := k1) (i := i1) (b := b1) (t := t1) (k' := k3) (i' := i3) (b' := b3) (t' := t3) (eqF_nrm ks1 ks3)
      generalize eqOne k1 i1 b1 t1 k3 i3 b3 t3 (eqF ks1 ks3) = r1 at *
      generalize eqOne k2 i2 b2 t2 k4 i4 b4 t4 (eqF ks2 ks4) = r2 at *
      rcases hn1 with rfl | rfl | rfl <;> rcases hn2 with rfl | rfl | rfl <;> simp [c2]
    · subst hx; subst hy
      rw [qd118, ba_beq]; simp [eqOne]
    · obtain ⟨b1, h1, rfl⟩ := hx
      obtain ⟨b2, h2, rfl⟩ := hy
      have ho := hB.one h1 h2
      simp only at ho
      by_cases e : b1 = b2
      · subst e
        rw [qd119s]; simp [eqOne, hf, hf', ho.2 rfl]
      · rw [qd119o n (hB.cl _ h1) (hB.cl _ h2) e]
        have hne : ¬ i = i' := fun h => e (ho.1 h)
        simp [eqOne, hf, hf', hne]
    · subst hx; subst hy
      rw [qd119n]; simp [eqOne, hf, hf']
    · subst hx; subst hy
      rw [qd123]; simp [eqOne, hf, hf']
  · have hr : (eqOne k i b t k' i' b' t' (eqF kids g)).1 = false := by simp [eqOne, hk]
    rw [hr]
    by_cases hk0 : k = 0
    · subst hk0
      obtain ⟨v, rfl⟩ := hy.tag (by omega) h13'
      simp [vOne] at hx
      subst hx
      exact qdnl _ _ _ w
    by_cases hk0' : k' = 0
    · subst hk0'
      obtain ⟨v, rfl⟩ := hx.tag (by omega) h13
      simp [vOne] at hy
      subst hy
      exact qdnr _ _ _ w
    by_cases h1 : k = 11 ∧ k' = 12
    · obtain ⟨rfl, rfl⟩ := h1
      simp [vOne] at hx hy
      obtain ⟨_, _, rfl⟩ := hx
      subst hy
      exact qd119r _ _ w
    by_cases h2 : k = 12 ∧ k' = 11
    · obtain ⟨rfl, rfl⟩ := h2
      simp [vOne] at hx hy
      obtain ⟨_, _, rfl⟩ := hy
      subst hx
      exact qd119l _ _ w
    obtain ⟨v, rfl⟩ := hx.tag (by omega) h13
    obtain ⟨u, rfl⟩ := hy.tag (by omega) h13'
    refine qdne _ _ _ _ _ (fun e => ?_) w
    have := tag_inj (by omega) h13 (by omega) h13' e
    omega
theorem eiAll : ∀ f : Fo, f.All EIOK
  | .nil => trivial
  | .cons _ _ _ _ kids rest => ⟨eiN (eiAll kids), eiAll rest⟩
theorem eiG (kids : Fo) : EIOK kids := eiN (eiAll kids)

/-! ### the map -/
def MapV (w : World) (r : Nat) (L : List (Value × Value)) : Prop := ∃ es clock, w.heap[r]? = some (.map es clock) ∧ es.toList.map (fun e => (e.key, e.val)) = L
theorem MapV.new (w : World) : MapV (w.alloc (.map #[] 0)) w.heap.size [] := ⟨#[], 0, heap_alloc_new w _, rfl⟩
theorem MapV.same {w w' : World} {r : Nat} {L : List (Value × Value)} (h : MapV w r L) (hb : w'.heap[r]? = w.heap[r]?) : MapV w' r L := by
  obtain ⟨es, clock, hh, he⟩ := h
  exact ⟨es, clock, hb.trans hh, he⟩
theorem MapV.lt {w : World} {r : Nat} {L : List (Value × Value)} (h : MapV w r L) : r < w.heap.size := by
  obtain ⟨es, clock, hh, he⟩ := h
  exact (Array.getElem?_eq_some_iff.1 hh).1
theorem MapV.below {w w' : World} {r : Nat} {L : List (Value × Value)} (h : MapV w r L) (hb : Below w.heap.size w w') : MapV w' r L := h.same (hb.block r h.lt)
theorem MapV.kept {w w' : World} {r : Nat} {L : List (Value × Value)} {row : Option Nat} (h : MapV w r L) (hg : w.grownBy w' row) (hne : some r ≠ row) : MapV w' r L := h.same (hg.block r h.lt hne)
section
variable {P : Program} {w : World}
def findQ (p : Value → Bool) : List MapEntry → Nat → Option (Nat × Value)
  | [], _ => none
  | e :: r, i => if p e.key then some (i, e.val) else findQ p r (i + 1)
theorem findQ_val (p : Value → Bool) : ∀ (es : List MapEntry) (i : Nat), (findQ p es i).map (·.2) = ((es.map fun e => (e.key, e.val)).find? fun q => p q.1).map (·.2)
  | [], _ => rfl
  | e :: r, i => by
    simp only [findQ, List.map_cons, List.find?_cons]
    cases p e.key
    · simpa using findQ_val p r (i + 1)
    · rfl
theorem findAsking_run {kt : TypeId} {x : Value} {p : Value → Bool} : ∀ (es : List MapEntry) (i : Nat), (∀ e ∈ es, (Op.equal kt x e.key).run P w = .ok (p e.key) w) → (Instr.findAsking kt x es i).run P w = .ok (findQ p es i) w
  | [], _, _ => by simp [Instr.findAsking, findQ]
  | e :: r, i, h => by
    have h1 := h e (by simp)
    have h2 := findAsking_run r (i + 1) (fun e he => h e (by simp [he]))
    simp only [Instr.findAsking, findQ, Sem.run_bind, h1, Result.andThen_ok, Sem.run_ite]
    cases p e.key
    · simpa using h2
    · simp
theorem findKey_run {kt : TypeId} {ms : Array (String × TypeId)} (hk : P.underlying kt = some (.interface ms)) {x : Value} {p : Value → Bool} (es : List MapEntry) (h : ∀ e ∈ es, (Op.equal kt x e.key).run P w = .ok (p e.key) w) :
    (Instr.findKey kt x es).run P w = .ok (findQ p es 0) w := by
  cases es with
  | nil => simp [Instr.findKey, run_underlying hk, Instr.findNow, findQ]
  | cons e r =>
    have hn : Instr.findNow (.interface ms) x (e :: r) 0 = none := by
      simp only [Instr.findNow, Instr.sameNow]
    simp only [Instr.findKey, Sem.run_bind, run_underlying hk, Result.andThen_ok, hn]
    exact findAsking_run _ _ h
theorem MapV.lookup {r : Nat} {L : List (Value × Value)} (h : MapV w r L) {t kt et : TypeId} {ms : Array (String × TypeId)} (ht : P.underlying t = some (.map kt et)) (hk : P.underlying kt = some (.interface ms)) {z : Value} (hz : ∀ w, (zeroValue et).run P w = .ok z w)
    {x : Value} {p : Value → Bool} (hc : ∀ c, (Instr.checkKey c 10000 kt x).run P w = .ok () w) (hp : ∀ q ∈ L, (Op.equal kt x q.1).run P w = .ok (p q.1) w) :
    (Instr.lookup t (.map (some r)) x true).run P w = .ok (.tuple #[((L.find? fun q => p q.1).map (·.2)).getD z, .bool (L.find? fun q => p q.1).isSome]) w := by
  obtain ⟨es, clock, hh, rfl⟩ := h
  have hf := findQ_val p es.toList 0
  have hfk := findKey_run hk (x := x) (p := p) (w := w) es.toList (fun e he => hp (e.key, e.val) (List.mem_map.2 ⟨e, he, rfl⟩))
  simp only [Instr.lookup, Sem.run_bind, run_underlying ht, Result.andThen_ok, run_getObj_map hh, Sem.run_pure, hc, hfk]
  cases hq : findQ p es.toList 0 with
  | none =>
    rw [hq] at hf
    simp only [Option.map_none] at hf
    have hn : ((es.toList.map fun e => (e.key, e.val)).find? fun q => p q.1) = none := by
      cases hx : ((es.toList.map fun e => (e.key, e.val)).find? fun q => p q.1) with
      | none => rfl
      | some y => rw [hx] at hf; cases hf
    rw [hn]
    simp [hz]
  | some y =>
    obtain ⟨j, v⟩ := y
    rw [hq] at hf
    cases hx : ((es.toList.map fun e => (e.key, e.val)).find? fun q => p q.1) with
    | none => rw [hx] at hf; cases hf
    | some y =>
      rw [hx] at hf
      simp only [Option.map_some, Option.some.injEq] at hf
      simp [hf]
theorem MapV.lookup_bad {r : Nat} {L : List (Value × Value)} (h : MapV w r L) {t kt et : TypeId} (ht : P.underlying t = some (.map kt et)) {x : Value} (hc : ∀ c, ∃ u v, (Instr.checkKey c 10000 kt x).run P w = .halt (.panic (.iface u v)) w) :
    ∃ u v, (Instr.lookup t (.map (some r)) x true).run P w = .halt (.panic (.iface u v)) w := by
  obtain ⟨es, clock, hh, rfl⟩ := h
  obtain ⟨u, v, hc⟩ := hc es.isEmpty
  refine ⟨u, v, ?_⟩
  simp only [Instr.lookup, Sem.run_bind, run_underlying ht, Result.andThen_ok, run_getObj_map hh, Sem.run_pure, hc]
  rfl
theorem MapV.add {r : Nat} {L : List (Value × Value)} (h : MapV w r L) {t kt et : TypeId} {ms : Array (String × TypeId)} (ht : P.underlying t = some (.map kt et)) (hk : P.underlying kt = some (.interface ms))
    {x : Value} {p : Value → Bool} (hc : ∀ c, (Instr.checkKey c 10000 kt x).run P w = .ok () w) (hp : ∀ q ∈ L, (Op.equal kt x q.1).run P w = .ok (p q.1) w) (hn : (L.find? fun q => p q.1) = none) (v : Value) :
    ∃ w', (Instr.mapUpdate t (.map (some r)) x v).run P w = .ok () w' ∧ MapV w' r (L ++ [(x, v)]) ∧ w.grownBy w' (some r) := by
  obtain ⟨es, clock, hh, rfl⟩ := h
  have hlt : r < w.heap.size := (Array.getElem?_eq_some_iff.1 hh).1
  have hf := findQ_val p es.toList 0
  have hfk := findKey_run hk (x := x) (p := p) (w := w) es.toList (fun e he => hp (e.key, e.val) (List.mem_map.2 ⟨e, he, rfl⟩))
  rw [hn] at hf
  have hq : findQ p es.toList 0 = none := by
    cases hq : findQ p es.toList 0 with
    | none => rfl
    | some y => rw [hq] at hf; cases hf
  refine ⟨{ w with heap := w.heap.setIfInBounds r (.map (es.push { key := x, val := v, born := clock }) (clock + 1)) }, ?_, ⟨es.push { key := x, val := v, born := clock }, clock + 1, by simp [hlt], by simp⟩, grownBy_set _ _ _⟩
  simp [Instr.mapUpdate, run_underlying ht, run_getObj_map hh, hc, hfk, hq, run_setObj_map _ hh]
end
end Go.Proofs.YtofpdhkdnbnobaaDoor
