import Derived.Test.YtoninfccmonaiaaAnswersLaw
import Derived.Test.YtoninfccmonaiaaOpen
namespace Go.Proofs.Ytoninfccmonaiaa
open Go.ChangeShapes Go.WideShapes Go.ChangeAt Go.RowKit
theorem flatMap_get {α : Type} (f : α → List Value) (sz : Nat) (hf : ∀ x, (f x).length = sz) : ∀ (l : List α) (i r : Nat) (hi : i < l.length), r < sz → (l.flatMap f)[i * sz + r]? = (f (l[i]'hi))[r]?
  | [], i, r, hi, _ => by simp at hi
  | a :: t, 0, r, hi, hr => by
    simp only [List.flatMap_cons, Nat.zero_mul, Nat.zero_add, List.getElem_cons_zero]
    rw [List.getElem?_append_left (by rw [hf]; exact hr)]
  | a :: t, i + 1, r, hi, hr => by
    simp only [List.flatMap_cons, List.getElem_cons_succ]
    rw [List.getElem?_append_right (by rw [hf, Nat.add_mul]; omega), hf, ← flatMap_get f sz hf t i r (by simpa using hi) hr]
    congr 1
    rw [Nat.add_mul]; omega
theorem flatMap_len {α : Type} (f : α → List Value) (sz : Nat) (hf : ∀ x, (f x).length = sz) : ∀ (l : List α), (l.flatMap f).length = l.length * sz
  | [] => by simp
  | a :: t => by simp only [List.flatMap_cons, List.length_append, hf, flatMap_len f sz hf t, List.length_cons, Nat.add_mul]; omega


/-- A slice whose elements have a reading each: by its reading. -/
theorem open_rows {α H : Type} {enc : TypeId × Value → H} {P : Program} {W : World} {t e : TypeId} {fuel : Nat} {c : Value} {x : DataW H × List MemPlace} (f : α → List Value) (Q : α → Prop) (sz : Nat) (hf : ∀ x, (f x).length = sz) (hsz : 1 ≤ sz)
    (ht : P.underlying t = some (.slice e)) (hc : P.cellsOf e = sz)
    (ho : ∀ (n : Nat) (cs : List Value) (y : DataW H × List MemPlace), DataW.trod enc P W 0 (fun _ => true) true n e cs = some y → ∃ x, cs = f x ∧ Q x)
    (h : DataW.trod enc P W 0 (fun _ => true) true fuel t [c] = some x) :
    ∃ (a : Option Addr) (len cap : Nat) (l : List α), c = .slice a len cap ∧ Rd W sz a len cap (l.flatMap f) ∧ ∀ x ∈ l, Q x := by
  rcases DataW.trod_slice ht h with ⟨h0, _⟩ | ⟨a, len, cap, elems, rest, n, _, hcs, _, hb, hl, hm, hlen, hel, _, _⟩
  · exact ⟨none, 0, 0, [], by simpa using h0, Rd.nil _ _, fun _ h => absurd h (by simp)⟩
  have hex : ∀ i : Fin len, ∃ x : α, W.cells? 0 (a.add (i.1 * sz)) sz = some (f x) ∧ Q x := by
    intro i
    have h1 := hel i.1 i.2
    rw [hc] at h1
    have h2 : i.1 < elems.length := by have := i.2; omega
    rw [List.getElem?_eq_getElem h2, Option.bind_eq_some_iff] at h1
    obtain ⟨cs', hcs', hy⟩ := h1
    obtain ⟨x, rfl, hq⟩ := ho _ _ _ hy
    exact ⟨x, hcs', hq⟩
  refine ⟨some a, len, cap, List.ofFn (fun i : Fin len => (Classical.choose (hex i) : α)), by simpa using hcs, ?_, ?_⟩
  · have hlen2 : (List.ofFn (fun i : Fin len => (Classical.choose (hex i) : α))).length = len := by simp
    refine ⟨by rw [flatMap_len f sz hf, hlen2], hl, hm, ?_⟩
    by_cases h0 : len = 0
    · exact .inl ⟨h0, fun h => by cases h⟩
    · have hcell : ∀ (i r : Nat), i < len → (hr : r < sz) → W.cell? (a.add (i * sz + r)) = ((List.ofFn (fun i : Fin len => (Classical.choose (hex i) : α))).flatMap f)[i * sz + r]? := by
        intro i r hi hr
        rw [flatMap_get f sz hf _ i r (by rw [hlen2]; exact hi) hr]
        have h1 := (Classical.choose_spec (hex ⟨i, hi⟩)).1
        have h2 := (World.cells?_some h1).2.2 r hr
        have h3 : (a.add (i * sz)).add r = a.add (i * sz + r) := by
          unfold Addr.add
          by_cases e1 : r = 0
          · subst e1; simp
          · by_cases e2 : i * sz = 0
            · simp [e1, e2]
            · simp [e1, e2, Nat.add_assoc]
        rw [← h3]
        simpa using h2
      obtain ⟨b, off, spot⟩ := a
      have hc0 := hcell 0 0 (by omega) (by omega)
      simp only [Nat.zero_mul, Nat.zero_add] at hc0
      have hpos : 0 < ((List.ofFn (fun i : Fin len => (Classical.choose (hex i) : α))).flatMap f).length := by rw [flatMap_len f sz hf, hlen2]; exact Nat.mul_pos (by omega) (by omega)
      rw [List.getElem?_eq_getElem hpos] at hc0
      have hspot : spot = none := by simpa [Addr.add] using World.cell?_spot hc0
      subst hspot
      refine .inr ⟨b, off, rfl, ?_, fun j hj => ?_⟩
      · exact World.block_lt_of_cell? W ⟨b, off, none⟩ (by simpa [Addr.add] using hc0)
      · rw [flatMap_len f sz hf, hlen2] at hj
        have h1 := hcell (j / sz) (j % sz) (by rw [Nat.div_lt_iff_lt_mul (by omega)]; exact hj) (Nat.mod_lt _ (by omega))
        rw [Nat.mul_comm, Nat.div_add_mod, Addr.add_lit] at h1
        exact h1
  · intro x hx
    obtain ⟨i, hi⟩ := List.mem_ofFn.1 hx
    rw [← hi]
    exact (Classical.choose_spec (hex i)).2
theorem ask37 : Try.prog.cellsOf 37 = 2 := by kernel_rfl
theorem ask35 : Try.prog.cellsOf 35 = 1 := by kernel_rfl
theorem ask53 : Try.prog.cellsOf 53 = 3 := by kernel_rfl
theorem ask2 : Try.prog.cellsOf 2 = 1 := by kernel_rfl
theorem ask9 : Try.prog.cellsOf 9 = 1 := by kernel_rfl
theorem askV_length (x : Ask) : (askV x).length = 3 := rfl
theorem open_ask {H : Type} {enc : TypeId × Value → H} {W : World} {n : Nat} {cs : List Value} {y : DataW H × List MemPlace} (h : DataW.trod enc Try.prog W 0 (fun _ => true) true n 53 cs = some y) :
    ∃ x : Ask, cs = askV x ∧ True := by
  obtain ⟨xs, m, _, _, hl, hlen, hf⟩ := DataW.trod_struct Try.underlying53 h
  rw [ask53] at hl
  match cs, hl with
  | [c0, c1, c2], _ =>
    match xs, hlen with
    | [y0, y1, y2], _ =>
      have h0 := hf 0 _ rfl
      have h1 := hf 1 _ rfl
      have h2 := hf 2 _ rfl
      rw [show Try.prog.cellsOf (Field.type _) = 1 from ask2] at h0
      rw [show Try.prog.cellsOf (Field.type _) = 1 from ask2] at h1
      rw [show Try.prog.cellsOf (Field.type _) = 1 from ask9] at h2
      obtain ⟨z0, e0, _, _⟩ := DataW.trod_int Try.underlying2 (x := y0) h0
      obtain ⟨z1, e1, _, _⟩ := DataW.trod_int Try.underlying2 (x := y1) h1
      obtain ⟨z2, e2, _, _⟩ := DataW.trod_string Try.underlying9 (x := y2) h2
      have e0' : [c0] = [Value.int .i64 z0] := e0
      have e1' : [c1] = [Value.int .i64 z1] := e1
      have e2' : [c2] = [Value.string z2] := e2
      simp only [List.cons.injEq, and_true] at e0' e1' e2'
      exact ⟨(z0, z1, z2), by rw [e0', e1', e2']; rfl, trivial⟩

theorem array2 {cs : Array Value} (h : cs.size = 2) : ∃ c d, cs = #[c, d] := by
  obtain ⟨l⟩ := cs
  match l, h with
  | [c, d], _ => exact ⟨c, d, rfl⟩
theorem open_state {H : Type} {enc : TypeId × Value → H} {W : World} {cs : Array Value} {fuel : Nat} {x : DataW H × List MemPlace} (hsz : cs.size = Try.prog.cellsOf 37)
    (hf : DataW.trod enc Try.prog W 0 (fun _ => true) true fuel 37 (Value.agg cs).cells.toList = some x) : ∃ next a len cap l, cs = #[.int .i64 next, .slice a len cap] ∧ Asks W a len cap l := by
  rw [ask37] at hsz
  obtain ⟨c, d, rfl⟩ := array2 hsz
  obtain ⟨y0, y1, n, _, _, h0, h1⟩ := trod_struct2 Try.underlying37 hf
  simp only [ask2, ask35] at h0 h1
  obtain ⟨z0, e0, _, _⟩ := DataW.trod_int Try.underlying2 h0
  obtain ⟨a, len, cap, l, hd, hr, _⟩ := open_rows (c := d) askV (fun _ => True) 3 askV_length (by omega) Try.underlying35 ask53 (fun n cs y h => open_ask h) h1
  exact ⟨z0, a, len, cap, l, by have e0' : [c] = [Value.int .i64 z0] := e0; simp only [List.cons.injEq, and_true] at e0'; rw [e0', hd], hr⟩
end Go.Proofs.Ytoninfccmonaiaa
