/-
  From the reading of an error to the words of the walks. Not a statement of the seat.
-/
import Derived.Test.YtbldidiibkcelaaGreatDoorTELook
import Derived.ProofKit
import Derived.OpenShut
import Derived.ChangeOld
import Derived.Test.YtbldidiibkcelaaGreatDoorRows
import Derived.ChangeSame
import Derived.ChangeVars
import Derived.JoinedOf
import Derived.RowKit
import Derived.RowKitTokens
import Derived.LaidLaws
import Derived.LaidMore
import Derived.LaidHandle
import Derived.Stop.Joined
import Derived.Lib.LaidTab
namespace Go.Proofs.YtbldidiibkcelaaGreatDoor
open Go.RowKit Go.ChangeShapes Go.WideShapes Go.ChangeAt

theorem co3 : Tryz.prog.cellsOf 3 = 1 := by kernel_rfl
theorem co2 : Tryz.prog.cellsOf 2 = 1 := by kernel_rfl
theorem co9 : Tryz.prog.cellsOf 9 = 1 := by kernel_rfl
theorem co22 : Tryz.prog.cellsOf 22 = 1 := by kernel_rfl
theorem co23 : Tryz.prog.cellsOf 23 = 1 := by kernel_rfl
theorem co26 : Tryz.prog.cellsOf 26 = 1 := by kernel_rfl
theorem co27 : Tryz.prog.cellsOf 27 = 1 := by kernel_rfl
theorem co25 : Tryz.prog.cellsOf 25 = 5 := by kernel_rfl
theorem co29 : Tryz.prog.cellsOf 29 = 11 := by kernel_rfl
theorem by2 : Tryz.prog.bytesOf 2 = 8 := by kernel_rfl
theorem flatMap_get {α : Type} (f : α → List Value) (sz : Nat) (hf : ∀ x, (f x).length = sz) : ∀ (l : List α) (i r : Nat) (hi : i < l.length), r < sz → (l.flatMap f)[i * sz + r]? = (f (l[i]'hi))[r]?
  | [], i, r, hi, _ => by simp at hi
  | a :: t, 0, r, hi, hr => by
    simp only [List.flatMap_cons, Nat.zero_mul, Nat.zero_add, List.getElem_cons_zero]
    rw [List.getElem?_append_left (by rw [hf]; exact hr)]
  | a :: t, i + 1, r, hi, hr => by
    simp only [List.flatMap_cons, List.getElem_cons_succ]
    rw [List.getElem?_append_right (by rw [hf, Nat.add_mul]; omega), hf, ← flatMap_get f sz hf t i r (by simpa using hi) hr]
    congr 1
    rw [Nat.add_mul]; omega
theorem flatMap_len {α : Type} (f : α → List Value) (sz : Nat) (hf : ∀ x, (f x).length = sz) : ∀ (l : List α), (l.flatMap f).length = l.length * sz
  | [] => by simp
  | a :: t => by simp only [List.flatMap_cons, List.length_append, hf, flatMap_len f sz hf t, List.length_cons, Nat.add_mul]; omega
/-- A slice whose elements have a reading each: by its reading. -/
theorem open_rows {α H : Type} {enc : TypeId × Value → H} {P : Program} {W : World} {t e : TypeId} {fuel : Nat} {c : Value} {x : DataW H × List MemPlace} (f : α → List Value) (Q : α → Prop) (sz : Nat) (hf : ∀ x, (f x).length = sz) (hsz : 1 ≤ sz)
    (ht : P.underlying t = some (.slice e)) (hc : P.cellsOf e = sz)
    (ho : ∀ (n : Nat) (cs : List Value) (y : DataW H × List MemPlace), n < fuel → DataW.trod enc P W 0 (fun _ => true) true n e cs = some y → ∃ x, cs = f x ∧ Q x)
    (h : DataW.trod enc P W 0 (fun _ => true) true fuel t [c] = some x) :
    ∃ (a : Option Addr) (len cap : Nat) (l : List α), c = .slice a len cap ∧ Rd W sz a len cap (l.flatMap f) ∧ ∀ x ∈ l, Q x := by
  rcases DataW.trod_slice ht h with ⟨h0, _⟩ | ⟨a, len, cap, elems, rest, n, hfu, hcs, _, hb, hl, hm, hlen, hel, _, _⟩
  · exact ⟨none, 0, 0, [], by simpa using h0, Rd.nil _ _, fun _ h => absurd h (by simp)⟩
  have hex : ∀ i : Fin len, ∃ x : α, W.cells? 0 (a.add (i.1 * sz)) sz = some (f x) ∧ Q x := by
    intro i
    have h1 := hel i.1 i.2
    rw [hc] at h1
    have h2 : i.1 < elems.length := by have := i.2; omega
    rw [List.getElem?_eq_getElem h2, Option.bind_eq_some_iff] at h1
    obtain ⟨cs', hcs', hy⟩ := h1
    obtain ⟨x, rfl, hq⟩ := ho _ _ _ (by omega) hy
    exact ⟨x, hcs', hq⟩
  refine ⟨some a, len, cap, List.ofFn (fun i : Fin len => (Classical.choose (hex i) : α)), by simpa using hcs, ?_, ?_⟩
  · have hlen2 : (List.ofFn (fun i : Fin len => (Classical.choose (hex i) : α))).length = len := by simp
    refine ⟨by rw [flatMap_len f sz hf, hlen2], hl, hm, ?_⟩
    by_cases h0 : len = 0
    · exact .inl ⟨h0, fun h => by cases h⟩
    · have hcell : ∀ (i r : Nat), i < len → (hr : r < sz) → W.cell? (a.add (i * sz + r)) = ((List.ofFn (fun i : Fin len => (Classical.choose (hex i) : α))).flatMap f)[i * sz + r]? := by
        intro i r hi hr
        rw [flatMap_get f sz hf _ i r (by rw [hlen2]; exact hi) hr]
        have h1 := (Classical.choose_spec (hex ⟨i, hi⟩)).1
        have h2 := (World.cells?_some h1).2.2 r hr
        have h3 : (a.add (i * sz)).add r = a.add (i * sz + r) := by
          unfold Addr.add
          by_cases e1 : r = 0
          · subst e1; simp
          · by_cases e2 : i * sz = 0
            · simp [e1, e2]
            · simp [e1, e2, Nat.add_assoc]
        rw [← h3]
        simpa using h2
      obtain ⟨b, off, spot⟩ := a
      have hc0 := hcell 0 0 (by omega) (by omega)
      simp only [Nat.zero_mul, Nat.zero_add] at hc0
      have hpos : 0 < ((List.ofFn (fun i : Fin len => (Classical.choose (hex i) : α))).flatMap f).length := by rw [flatMap_len f sz hf, hlen2]; exact Nat.mul_pos (by omega) (by omega)
      rw [List.getElem?_eq_getElem hpos] at hc0
      have hspot : spot = none := by simpa [Addr.add] using World.cell?_spot hc0
      subst hspot
      refine .inr ⟨b, off, rfl, ?_, fun j hj => ?_⟩
      · exact World.block_lt_of_cell? W ⟨b, off, none⟩ (by simpa [Addr.add] using hc0)
      · rw [flatMap_len f sz hf, hlen2] at hj
        have h1 := hcell (j / sz) (j % sz) (by rw [Nat.div_lt_iff_lt_mul (by omega)]; exact hj) (Nat.mod_lt _ (by omega))
        rw [Nat.mul_comm, Nat.div_add_mod, Addr.add_lit] at h1
        exact h1
  · intro x hx
    obtain ⟨i, hi⟩ := List.mem_ofFn.1 hx
    rw [← hi]
    exact (Classical.choose_spec (hex i)).2
/-- numbers are numbers of their widths -/
def foRng : Fo → Prop
  | .nil => True
  | .cons _ i b _ kids rest => ((0 ≤ b ∧ b < 18446744073709551616) ∧ -9223372036854775808 ≤ i ∧ i ≤ 9223372036854775807) ∧ foRng kids ∧ foRng rest
/-- one value of a row that has come in -/
structure El where
  k : Int
  i : Int
  b : Int
  t : Bs
  kids : Fo
  l : Option Addr
  n : Nat
  c : Nat
def El.cells (x : El) : List Value := [.int .i64 x.k, .int .i64 x.i, .int .u64 x.b, .string ⟨x.t.toArray⟩, .slice x.l x.n x.c]
def foOf : List El → Fo
  | [] => .nil
  | x :: r => .cons x.k x.i x.b x.t x.kids (foOf r)
def El.rng (x : El) : Prop := ((0 ≤ x.b ∧ x.b < 18446744073709551616) ∧ -9223372036854775808 ≤ x.i ∧ x.i ≤ 9223372036854775807) ∧ foRng x.kids
def ElOK (W : World) (x : El) : Prop := FoAt (fun b => b < W.heap.size) W x.kids x.l x.n x.c ∧ x.rng
theorem plain_of : ∀ (l : List El), (∀ x ∈ l, x.rng) → foRng (foOf l)
  | [], _ => trivial
  | x :: r, h => ⟨(h x (by simp)).1, (h x (by simp)).2, plain_of r (fun y hy => h y (by simp [hy]))⟩
theorem At_of {W : World} : ∀ (l : List El), (∀ x ∈ l, ElOK W x) → At (fun b => b < W.heap.size) W (foOf l) (l.flatMap El.cells)
  | [], _ => rfl
  | x :: r, h => by
    obtain ⟨⟨ks, h1, h2⟩, _⟩ := h x (by simp)
    exact ⟨x.l, x.n, x.c, ks, r.flatMap El.cells, rfl, h1, h2, At_of r (fun y hy => h y (by simp [hy]))⟩
theorem Rd.ltb {w : World} {sz : Nat} {a : Option Addr} {n cap : Nat} {xs : List Value} (h : Rd w sz a n cap xs) : ∀ x, 0 < n → blockOf a = some x → x < w.heap.size := by
  intro x hn hx
  rcases h.2.2.2 with ⟨h0, _⟩ | ⟨b, off, rfl, hlt, _⟩
  · omega
  · cases hx; exact hlt
set_option maxRecDepth 100000 in
theorem open_el {H : Type} {enc : TypeId × Value → H} {W : World} : ∀ (n : Nat) {cs : List Value} {y : DataW H × List MemPlace}, DataW.trod enc Tryz.prog W 0 (fun _ => true) true n 25 cs = some y → ∃ x : El, cs = x.cells ∧ ElOK W x := by
  intro n
  induction n using Nat.strongRecOn with
  | _ n ih =>
    intro cs y h
    obtain ⟨xs, m, hfu, _, hl, hlen, hf⟩ := DataW.trod_struct Tryz.underlying25 h
    rw [co25] at hl
    match cs, hl with
    | [c0, c1, c2, c3, c4], _ =>
      match xs, hlen with
      | [y0, y1, y2, y3, y4], _ =>
        have h0 := hf 0 _ rfl
        have h1 := hf 1 _ rfl
        have h2 := hf 2 _ rfl
        have h3 := hf 3 _ rfl
        have h4 := hf 4 _ rfl
        rw [show Tryz.prog.cellsOf (Field.type _) = 1 from co3] at h0
        rw [show Tryz.prog.cellsOf (Field.type _) = 1 from co2] at h1
        rw [show Tryz.prog.cellsOf (Field.type _) = 1 from co22] at h2
        rw [show Tryz.prog.cellsOf (Field.type _) = 1 from co9] at h3
        rw [show Tryz.prog.cellsOf (Field.type _) = 1 from co23] at h4
        obtain ⟨z0, e0, _, _⟩ := DataW.trod_int Tryz.underlying3 (x := y0) h0
        obtain ⟨z1, e1, _, r1⟩ := DataW.trod_int Tryz.underlying2 (x := y1) h1
        obtain ⟨z2, e2, _, r2⟩ := DataW.trod_int Tryz.underlying22 (x := y2) h2
        obtain ⟨s, e3, _, _⟩ := DataW.trod_string Tryz.underlying9 (x := y3) h3
        obtain ⟨a, len, cap, l, e4, hr, hq⟩ := open_rows (c := c4) El.cells (ElOK W) 5 (fun _ => rfl) (by omega) Tryz.underlying23 co25 (fun n' cs' y' hn' h' => ih n' (by omega) h') h4
        have e0' : [c0] = [Value.int .i64 z0] := e0
        have e1' : [c1] = [Value.int .i64 z1] := e1
        have e2' : [c2] = [Value.int .u64 z2] := e2
        have e3' : [c3] = [Value.string s] := e3
        simp only [List.cons.injEq, and_true] at e0' e1' e2' e3'
        have g1 := bounds_i64 r1
        have g2 := bounds_u64 r2
        refine ⟨⟨z0, z1, z2, s.data.toList, foOf l, a, len, cap⟩, ?_, ⟨_, ⟨hr, hr.ltb⟩, At_of l hq⟩, ⟨(show (0 : Int) ≤ z2 ∧ z2 < 18446744073709551616 by omega), g1⟩, plain_of l (fun x hx => (hq x hx).2)⟩
        rw [e0', e1', e2', e3', e4]
        show _ = [Value.int .i64 z0, .int .i64 z1, .int .u64 z2, .string ⟨s.data.toList.toArray⟩, .slice a len cap]
        rw [Lib.mk_data]
/-- what is read is of sizes that a machine has -/
def inReach {H : Type} (t : TypeId) (d : DataW H) : Prop := (d.weights Tryz.prog t).all (· ≤ reachBytes) = true
theorem reach_mem {H : Type} {e : TypeId} : ∀ (l : List (DataW H)), (DataW.weightsAll Tryz.prog e l).all (· ≤ reachBytes) = true → ∀ d ∈ l, inReach e d
  | [], _, d, h => by cases h
  | x :: r, hw, d, h => by
    rw [DataW.weightsAll, List.all_append, Bool.and_eq_true] at hw
    rcases List.mem_cons.1 h with rfl | h
    · exact hw.1
    · exact reach_mem r hw.2 d h
theorem reach_slice {H : Type} {t e : TypeId} {es rs : List (DataW H)} (ht : Tryz.prog.underlying t = some (.slice e)) (h : inReach t (.slice es rs)) : (es.length + rs.length) * Tryz.prog.bytesOf e ≤ reachBytes ∧ ∀ d ∈ es, inReach e d := by
  unfold inReach at h
  rw [DataW.weights, ht] at h
  simp only [List.all_cons, List.all_append, Bool.and_eq_true, decide_eq_true_eq] at h
  exact ⟨h.1, reach_mem es h.2.1⟩
/-- open_rows, with what is known of the sizes -/
theorem open_rowsG {α H : Type} {enc : TypeId × Value → H} {W : World} {t e : TypeId} {fuel : Nat} {c : Value} {x : DataW H × List MemPlace} (f : α → List Value) (Q : α → Prop) (sz : Nat) (hf : ∀ x, (f x).length = sz) (hsz : 1 ≤ sz)
    (ht : Tryz.prog.underlying t = some (.slice e)) (hc : Tryz.prog.cellsOf e = sz) (hR : inReach t x.1)
    (ho : ∀ (n : Nat) (cs : List Value) (y : DataW H × List MemPlace), n < fuel → DataW.trod enc Tryz.prog W 0 (fun _ => true) true n e cs = some y → inReach e y.1 → ∃ x, cs = f x ∧ Q x)
    (h : DataW.trod enc Tryz.prog W 0 (fun _ => true) true fuel t [c] = some x) :
    ∃ (a : Option Addr) (len cap : Nat) (l : List α), c = .slice a len cap ∧ Rd W sz a len cap (l.flatMap f) ∧ (∀ x ∈ l, Q x) ∧ l.length * Tryz.prog.bytesOf e ≤ reachBytes := by
  rcases DataW.trod_slice ht h with ⟨h0, _⟩ | ⟨a, len, cap, elems, rest, n, hfu, hcs, hx, hb, hl, hm, hlen, hel, _, _⟩
  · exact ⟨none, 0, 0, [], by simpa using h0, Rd.nil _ _, fun _ h => absurd h (by simp), by simp⟩
  rw [hx] at hR
  have hR2 := reach_slice ht hR
  have hex : ∀ i : Fin len, ∃ x : α, W.cells? 0 (a.add (i.1 * sz)) sz = some (f x) ∧ Q x := by
    intro i
    have h1 := hel i.1 i.2
    rw [hc] at h1
    have h2 : i.1 < elems.length := by have := i.2; omega
    rw [List.getElem?_eq_getElem h2, Option.bind_eq_some_iff] at h1
    obtain ⟨cs', hcs', hy⟩ := h1
    obtain ⟨x, rfl, hq⟩ := ho _ _ _ (by omega) hy (hR2.2 _ (List.mem_map.2 ⟨_, List.getElem_mem h2, rfl⟩))
    exact ⟨x, hcs', hq⟩
  have hlen2 : (List.ofFn (fun i : Fin len => (Classical.choose (hex i) : α))).length = len := by simp
  refine ⟨some a, len, cap, List.ofFn (fun i : Fin len => (Classical.choose (hex i) : α)), by simpa using hcs, ?_, ?_, ?_⟩
  · refine ⟨by rw [flatMap_len f sz hf, hlen2], hl, hm, ?_⟩
    by_cases h0 : len = 0
    · exact .inl ⟨h0, fun h => by cases h⟩
    · have hcell : ∀ (i r : Nat), i < len → (hr : r < sz) → W.cell? (a.add (i * sz + r)) = ((List.ofFn (fun i : Fin len => (Classical.choose (hex i) : α))).flatMap f)[i * sz + r]? := by
        intro i r hi hr
        rw [flatMap_get f sz hf _ i r (by rw [hlen2]; exact hi) hr]
        have h1 := (Classical.choose_spec (hex ⟨i, hi⟩)).1
        have h2 := (World.cells?_some h1).2.2 r hr
        have h3 : (a.add (i * sz)).add r = a.add (i * sz + r) := by
          unfold Addr.add
          by_cases e1 : r = 0
          · subst e1; simp
          · by_cases e2 : i * sz = 0
            · simp [e1, e2]
            · simp [e1, e2, Nat.add_assoc]
        rw [← h3]
        simpa using h2
      obtain ⟨b, off, spot⟩ := a
      have hc0 := hcell 0 0 (by omega) (by omega)
      simp only [Nat.zero_mul, Nat.zero_add] at hc0
      have hpos : 0 < ((List.ofFn (fun i : Fin len => (Classical.choose (hex i) : α))).flatMap f).length := by rw [flatMap_len f sz hf, hlen2]; exact Nat.mul_pos (by omega) (by omega)
      rw [List.getElem?_eq_getElem hpos] at hc0
      have hspot : spot = none := by simpa [Addr.add] using World.cell?_spot hc0
      subst hspot
      refine .inr ⟨b, off, rfl, ?_, fun j hj => ?_⟩
      · exact World.block_lt_of_cell? W ⟨b, off, none⟩ (by simpa [Addr.add] using hc0)
      · rw [flatMap_len f sz hf, hlen2] at hj
        have h1 := hcell (j / sz) (j % sz) (by rw [Nat.div_lt_iff_lt_mul (by omega)]; exact hj) (Nat.mod_lt _ (by omega))
        rw [Nat.mul_comm, Nat.div_add_mod, Addr.add_lit] at h1
        exact h1
  · intro x hx
    obtain ⟨i, hi⟩ := List.mem_ofFn.1 hx
    rw [← hi]
    exact (Classical.choose_spec (hex i)).2
  · rw [hlen2]
    have h3 := hR2.1
    rw [List.length_map, hlen, Nat.add_mul] at h3
    exact Nat.le_trans (Nat.le_add_right _ _) h3
/-- one error of a row that has come in -/
structure EEl where
  k : Int
  i : Int
  c : Int
  t : Bs
  b : El
  cs : List Int
  cl : Option Addr
  cn : Nat
  cc : Nat
  kids : Eo
  l : Option Addr
  n : Nat
  cap : Nat
def El.dt (x : El) : Dt := ⟨x.k, x.i, x.b, x.t, x.kids⟩
def EEl.cells (x : EEl) : List Value := V11 x.k x.i x.c x.t x.b.dt x.b.l x.b.n x.b.c x.cl x.cn x.cc x.l x.n x.cap
def EEl.et (x : EEl) : Et := ⟨x.k, x.i, x.c, x.t, x.b.dt, x.cs, x.kids⟩
def eoOf : List EEl → Eo
  | [] => .nil
  | x :: r => .cons x.k x.i x.c x.t x.b.dt x.cs x.kids (eoOf r)
def EElOK (W : World) (x : EEl) : Prop := ErAt (fun b => b < W.heap.size) W x.et x.b.l x.b.n x.b.c x.cl x.cn x.cc x.l x.n x.cap ∧ x.cs.length ≤ 140737488355328 ∧ x.kids.small ∧ foRng x.b.dt.fo
theorem small_of {W : World} : ∀ (l : List EEl), (∀ x ∈ l, EElOK W x) → (eoOf l).small
  | [], _ => trivial
  | x :: r, h => ⟨(h x (by simp)).2.1, (h x (by simp)).2.2.1, small_of r (fun y hy => h y (by simp [hy]))⟩
theorem EAt_of {W : World} : ∀ (l : List EEl), (∀ x ∈ l, EElOK W x) → EAt (fun b => b < W.heap.size) W (eoOf l) (l.flatMap EEl.cells)
  | [], _ => rfl
  | x :: r, h => by
    obtain ⟨⟨h1, h2, ks, h3, h4⟩, _⟩ := h x (by simp)
    exact ⟨x.b.l, x.b.n, x.b.c, x.cl, x.cn, x.cc, x.l, x.n, x.cap, ks, r.flatMap EEl.cells, rfl, h1, h2, h3, h4, EAt_of r (fun y hy => h y (by simp [hy]))⟩
theorem flatMap_I8 : ∀ (l : List Int), l.flatMap (fun x => [Value.int .i64 x]) = I8 l
  | [] => rfl
  | x :: r => by simp only [List.flatMap_cons, flatMap_I8 r]; rfl
theorem array11 {cs : Array Value} (h : cs.size = 11) : ∃ c0 c1 c2 c3 c4 c5 c6 c7 c8 c9 c10, cs = #[c0, c1, c2, c3, c4, c5, c6, c7, c8, c9, c10] := by
  obtain ⟨l⟩ := cs
  match l, h with
  | [c0, c1, c2, c3, c4, c5, c6, c7, c8, c9, c10], _ => exact ⟨c0, c1, c2, c3, c4, c5, c6, c7, c8, c9, c10, rfl⟩
end Go.Proofs.YtbldidiibkcelaaGreatDoor

