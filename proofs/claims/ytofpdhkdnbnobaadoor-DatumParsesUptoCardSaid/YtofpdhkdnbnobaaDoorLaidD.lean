/-
  From the reading of an argument, and of the listed variables, to the words of the walks. Not a statement of the seat.
-/
import Derived.Test.YtofpdhkdnbnobaaDoorValidW
import Derived.ProofKit
import Derived.OpenShut
import Derived.ChangeOld
import Derived.Test.YtofpdhkdnbnobaaDoorRows
import Derived.ChangeSame
import Derived.ChangeVars
import Derived.JoinedOf
import Derived.RowKit
import Derived.RowKitTokens
import Derived.LaidLaws
import Derived.LaidMore
import Derived.LaidHandle
import Derived.Stop.Joined
import Derived.Lib.LaidTab
namespace Go.Proofs.YtofpdhkdnbnobaaDoor
open Go.RowKit Go.ChangeShapes Go.WideShapes Go.ChangeAt

theorem gT0 : Tryd.prog.globalNamed "math/bits.deBruijn32tab" = some 5 := by kernel_rfl
theorem gT1 : Tryd.prog.globalNamed "math/bits.deBruijn64tab" = some 6 := by kernel_rfl
theorem gT2 : Tryd.prog.globalNamed "internal/strconv.uint64pow10" = some 1 := by kernel_rfl
theorem gT3 : Tryd.prog.globalNamed "strconv.ErrRange" = some 3 := by kernel_rfl
theorem gT4 : Tryd.prog.globalNamed "strconv.ErrSyntax" = some 2 := by kernel_rfl
theorem yT1 : (Tryd.prog.globals[6]?).map (·.type) = some 170 := by kernel_rfl
theorem yT2 : (Tryd.prog.globals[1]?).map (·.type) = some 157 := by kernel_rfl
theorem yT3 : (Tryd.prog.globals[3]?).map (·.type) = some 88 := by kernel_rfl
theorem yT4 : (Tryd.prog.globals[2]?).map (·.type) = some 88 := by kernel_rfl
theorem co3 : Tryd.prog.cellsOf 3 = 1 := by kernel_rfl
theorem co2 : Tryd.prog.cellsOf 2 = 1 := by kernel_rfl
theorem co5 : Tryd.prog.cellsOf 5 = 1 := by kernel_rfl
theorem co9 : Tryd.prog.cellsOf 9 = 1 := by kernel_rfl
theorem co22 : Tryd.prog.cellsOf 22 = 1 := by kernel_rfl
theorem co23 : Tryd.prog.cellsOf 23 = 1 := by kernel_rfl
theorem co25 : Tryd.prog.cellsOf 25 = 5 := by kernel_rfl
theorem co157 : Tryd.prog.cellsOf 157 = 20 := by kernel_rfl
theorem co170 : Tryd.prog.cellsOf 170 = 64 := by kernel_rfl
def z64 : List Int := [0, 1, 56, 2, 57, 49, 28, 3, 61, 58, 42, 50, 38, 29, 17, 4, 62, 47, 59, 36, 45, 43, 51, 22, 53, 39, 33, 30, 24, 18, 12, 5, 63, 55, 48, 27, 60, 41, 37, 16, 46, 35, 44, 21, 52, 32, 23, 11, 54, 26, 40, 15, 34, 20, 31, 10, 25, 14, 19, 9, 13, 8, 7, 6]

abbrev laidL : List (String × DataW Unit) := [("math/bits.deBruijn32tab", Rows.laid_math_bits_deBruijn32tab), ("math/bits.deBruijn64tab", Rows.laid_math_bits_deBruijn64tab), ("internal/strconv.uint64pow10", Rows.laid_internal_strconv_uint64pow10), ("strconv.ErrRange", Rows.laid_strconv_ErrRange), ("strconv.ErrSyntax", Rows.laid_strconv_ErrSyntax)]
theorem is64 : (Rows.laid_math_bits_deBruijn64tab : DataW Unit) = Lib.tabData .u8 z64 := by rfl
theorem isPow : (Rows.laid_internal_strconv_uint64pow10 : DataW Unit) = Lib.tabData .u64 Lib.pow10Tab := by rfl

set_option maxRecDepth 100000 in
theorem laid_of {W : World} (h : laidMetH Tryd.prog laidL W) : Lb W := by
  have hm : laidMet Tryd.prog laidL W := h
  obtain ⟨ps, ⟨g0, t0, cs0, f0, p0, q0, hg0, ht0, hv0, hd0, hl1, e0⟩, _, _⟩ := hm
  obtain ⟨g1, t1, cs1, f1, p1, q1, hg1, ht1, hv1, hd1, hl2, e1⟩ := hl1
  obtain ⟨g2, t2, cs2, f2, p2, q2, hg2, ht2, hv2, hd2, hl3, e2⟩ := hl2
  obtain ⟨g3, t3, cs3, f3, p3, q3, hg3, ht3, hv3, hd3, hl4, e3⟩ := hl3
  obtain ⟨g4, t4, cs4, f4, p4, q4, hg4, ht4, hv4, hd4, _, e4⟩ := hl4
  obtain rfl := Option.some.inj (gT1.symm.trans hg1)
  obtain rfl := Option.some.inj (gT2.symm.trans hg2)
  obtain rfl := Option.some.inj (gT3.symm.trans hg3)
  obtain rfl := Option.some.inj (gT4.symm.trans hg4)
  obtain rfl := Option.some.inj (yT1.symm.trans ht1)
  obtain rfl := Option.some.inj (yT2.symm.trans ht2)
  obtain rfl := Option.some.inj (yT3.symm.trans ht3)
  obtain rfl := Option.some.inj (yT4.symm.trans ht4)
  have hp : Lib.TabIs Tryd.prog W "internal/strconv.uint64pow10" .u64 Lib.pow10Tab := by
    unfold Lib.TabIs
    rw [isPow] at hd2
    rw [hv2, ← Lib.cells_of_tab Tryd.underlying157 Tryd.underlying22 co22 co157 hd2]
  have hz : Lib.TabIs Tryd.prog W "math/bits.deBruijn64tab" .u8 z64 := by
    unfold Lib.TabIs
    rw [is64] at hd1
    rw [hv1, ← Lib.cells_of_tab Tryd.underlying170 Tryd.underlying5 co5 co170 hd1]
  have hc := hz.cell gT1 15 (by decide)
  refine ⟨World.block_lt_of_cell? W ⟨6, 15, none⟩ hc, hp, ?_, ?_, ?_⟩
  · obtain ⟨_, u, v, e, _⟩ := iface_of_trod Tryd.underlying88 hd4
    obtain ⟨l9⟩ := cs4
    have e' : l9 = [.iface u v] := e
    subst e'
    exact ⟨u, v, by simpa using World.var?_cell gT4 hv4 0⟩
  · obtain ⟨_, u, v, e, _⟩ := iface_of_trod Tryd.underlying88 hd3
    obtain ⟨l9⟩ := cs3
    have e' : l9 = [.iface u v] := e
    subst e'
    exact ⟨u, v, by simpa using World.var?_cell gT3 hv3 0⟩
  · exact hc
theorem door_met (os : Os) (args : Array Value) : laidMetH Tryd.prog laidL ((World.doorLaid Tryd.prog 400 os).forCall (fun _ _ => 0) ⟨#[], args, []⟩).memory :=
  laidMet_of_run' 8 (by kernel_rfl) (by kernel_rfl)
theorem ownK : ownKnob Tryd.prog.godebug = none := by kernel_rfl
theorem laidOutK : laidOutB Tryd.prog = true := by kernel_rfl

theorem flatMap_get {α : Type} (f : α → List Value) (sz : Nat) (hf : ∀ x, (f x).length = sz) : ∀ (l : List α) (i r : Nat) (hi : i < l.length), r < sz → (l.flatMap f)[i * sz + r]? = (f (l[i]'hi))[r]?
  | [], i, r, hi, _ => by simp at hi
  | a :: t, 0, r, hi, hr => by
    simp only [List.flatMap_cons, Nat.zero_mul, Nat.zero_add, List.getElem_cons_zero]
    rw [List.getElem?_append_left (by rw [hf]; exact hr)]
  | a :: t, i + 1, r, hi, hr => by
    simp only [List.flatMap_cons, List.getElem_cons_succ]
    rw [List.getElem?_append_right (by rw [hf, Nat.add_mul]; omega), hf, ← flatMap_get f sz hf t i r (by simpa using hi) hr]
    congr 1
    rw [Nat.add_mul]; omega
theorem flatMap_len {α : Type} (f : α → List Value) (sz : Nat) (hf : ∀ x, (f x).length = sz) : ∀ (l : List α), (l.flatMap f).length = l.length * sz
  | [] => by simp
  | a :: t => by simp only [List.flatMap_cons, List.length_append, hf, flatMap_len f sz hf t, List.length_cons, Nat.add_mul]; omega

/-- A slice whose elements have a reading each: by its reading. -/
theorem open_rows {α H : Type} {enc : TypeId × Value → H} {P : Program} {W : World} {t e : TypeId} {fuel : Nat} {c : Value} {x : DataW H × List MemPlace} (f : α → List Value) (Q : α → Prop) (sz : Nat) (hf : ∀ x, (f x).length = sz) (hsz : 1 ≤ sz)
    (ht : P.underlying t = some (.slice e)) (hc : P.cellsOf e = sz)
    (ho : ∀ (n : Nat) (cs : List Value) (y : DataW H × List MemPlace), n < fuel → DataW.trod enc P W 0 (fun _ => true) true n e cs = some y → ∃ x, cs = f x ∧ Q x)
    (h : DataW.trod enc P W 0 (fun _ => true) true fuel t [c] = some x) :
    ∃ (a : Option Addr) (len cap : Nat) (l : List α), c = .slice a len cap ∧ Rd W sz a len cap (l.flatMap f) ∧ ∀ x ∈ l, Q x := by
  rcases DataW.trod_slice ht h with ⟨h0, _⟩ | ⟨a, len, cap, elems, rest, n, hfu, hcs, _, hb, hl, hm, hlen, hel, _, _⟩
  · exact ⟨none, 0, 0, [], by simpa using h0, Rd.nil _ _, fun _ h => absurd h (by simp)⟩
  have hex : ∀ i : Fin len, ∃ x : α, W.cells? 0 (a.add (i.1 * sz)) sz = some (f x) ∧ Q x := by
    intro i
    have h1 := hel i.1 i.2
    rw [hc] at h1
    have h2 : i.1 < elems.length := by have := i.2; omega
    rw [List.getElem?_eq_getElem h2, Option.bind_eq_some_iff] at h1
    obtain ⟨cs', hcs', hy⟩ := h1
    obtain ⟨x, rfl, hq⟩ := ho _ _ _ (by omega) hy
    exact ⟨x, hcs', hq⟩
  refine ⟨some a, len, cap, List.ofFn (fun i : Fin len => (Classical.choose (hex i) : α)), by simpa using hcs, ?_, ?_⟩
  · have hlen2 : (List.ofFn (fun i : Fin len => (Classical.choose (hex i) : α))).length = len := by simp
    refine ⟨by rw [flatMap_len f sz hf, hlen2], hl, hm, ?_⟩
    by_cases h0 : len = 0
    · exact .inl ⟨h0, fun h => by cases h⟩
    · have hcell : ∀ (i r : Nat), i < len → (hr : r < sz) → W.cell? (a.add (i * sz + r)) = ((List.ofFn (fun i : Fin len => (Classical.choose (hex i) : α))).flatMap f)[i * sz + r]? := by
        intro i r hi hr
        rw [flatMap_get f sz hf _ i r (by rw [hlen2]; exact hi) hr]
        have h1 := (Classical.choose_spec (hex ⟨i, hi⟩)).1
        have h2 := (World.cells?_some h1).2.2 r hr
        have h3 : (a.add (i * sz)).add r = a.add (i * sz + r) := by
          unfold Addr.add
          by_cases e1 : r = 0
          · subst e1; simp
          · by_cases e2 : i * sz = 0
            · simp [e1, e2]
            · simp [e1, e2, Nat.add_assoc]
        rw [← h3]
        simpa using h2
      obtain ⟨b, off, spot⟩ := a
      have hc0 := hcell 0 0 (by omega) (by omega)
      simp only [Nat.zero_mul, Nat.zero_add] at hc0
      have hpos : 0 < ((List.ofFn (fun i : Fin len => (Classical.choose (hex i) : α))).flatMap f).length := by rw [flatMap_len f sz hf, hlen2]; exact Nat.mul_pos (by omega) (by omega)
      rw [List.getElem?_eq_getElem hpos] at hc0
      have hspot : spot = none := by simpa [Addr.add] using World.cell?_spot hc0
      subst hspot
      refine .inr ⟨b, off, rfl, ?_, fun j hj => ?_⟩
      · exact World.block_lt_of_cell? W ⟨b, off, none⟩ (by simpa [Addr.add] using hc0)
      · rw [flatMap_len f sz hf, hlen2] at hj
        have h1 := hcell (j / sz) (j % sz) (by rw [Nat.div_lt_iff_lt_mul (by omega)]; exact hj) (Nat.mod_lt _ (by omega))
        rw [Nat.mul_comm, Nat.div_add_mod, Addr.add_lit] at h1
        exact h1
  · intro x hx
    obtain ⟨i, hi⟩ := List.mem_ofFn.1 hx
    rw [← hi]
    exact (Classical.choose_spec (hex i)).2

/-- one value of a row that has come in -/
structure El where
  k : Int
  i : Int
  b : Int
  t : Bs
  kids : Fo
  l : Option Addr
  n : Nat
  c : Nat
def El.cells (x : El) : List Value := [.int .i64 x.k, .int .i64 x.i, .int .u64 x.b, .string ⟨x.t.toArray⟩, .slice x.l x.n x.c]
def foOf : List El → Fo
  | [] => .nil
  | x :: r => .cons x.k x.i x.b x.t x.kids (foOf r)
def El.rng (x : El) : Prop := ((0 ≤ x.b ∧ x.b < 18446744073709551616) ∧ -9223372036854775808 ≤ x.i ∧ x.i ≤ 9223372036854775807) ∧ x.kids.plain
def ElOK (W : World) (x : El) : Prop := FoAt (fun b => b < W.heap.size) W x.kids x.l x.n x.c ∧ x.rng
theorem plain_of : ∀ (l : List El), (∀ x ∈ l, x.rng) → (foOf l).plain
  | [], _ => trivial
  | x :: r, h => ⟨(h x (by simp)).1, (h x (by simp)).2, plain_of r (fun y hy => h y (by simp [hy]))⟩
theorem At_of {W : World} : ∀ (l : List El), (∀ x ∈ l, ElOK W x) → At (fun b => b < W.heap.size) W (foOf l) (l.flatMap El.cells)
  | [], _ => rfl
  | x :: r, h => by
    obtain ⟨⟨ks, h1, h2⟩, _⟩ := h x (by simp)
    exact ⟨x.l, x.n, x.c, ks, r.flatMap El.cells, rfl, h1, h2, At_of r (fun y hy => h y (by simp [hy]))⟩
theorem Rd.ltb {w : World} {sz : Nat} {a : Option Addr} {n cap : Nat} {xs : List Value} (h : Rd w sz a n cap xs) : ∀ x, 0 < n → blockOf a = some x → x < w.heap.size := by
  intro x hn hx
  rcases h.2.2.2 with ⟨h0, _⟩ | ⟨b, off, rfl, hlt, _⟩
  · omega
  · cases hx; exact hlt

set_option maxRecDepth 100000 in
theorem open_el {H : Type} {enc : TypeId × Value → H} {W : World} : ∀ (n : Nat) {cs : List Value} {y : DataW H × List MemPlace}, DataW.trod enc Tryd.prog W 0 (fun _ => true) true n 25 cs = some y → ∃ x : El, cs = x.cells ∧ ElOK W x := by
  intro n
  induction n using Nat.strongRecOn with
  | _ n ih =>
    intro cs y h
    obtain ⟨xs, m, hfu, _, hl, hlen, hf⟩ := DataW.trod_struct Tryd.underlying25 h
    rw [co25] at hl
    match cs, hl with
    | [c0, c1, c2, c3, c4], _ =>
      match xs, hlen with
      | [y0, y1, y2, y3, y4], _ =>
        have h0 := hf 0 _ rfl
        have h1 := hf 1 _ rfl
        have h2 := hf 2 _ rfl
        have h3 := hf 3 _ rfl
        have h4 := hf 4 _ rfl
        rw [show Tryd.prog.cellsOf (Field.type _) = 1 from co3] at h0
        rw [show Tryd.prog.cellsOf (Field.type _) = 1 from co2] at h1
        rw [show Tryd.prog.cellsOf (Field.type _) = 1 from co22] at h2
        rw [show Tryd.prog.cellsOf (Field.type _) = 1 from co9] at h3
        rw [show Tryd.prog.cellsOf (Field.type _) = 1 from co23] at h4
        obtain ⟨z0, e0, _, _⟩ := DataW.trod_int Tryd.underlying3 (x := y0) h0
        obtain ⟨z1, e1, _, r1⟩ := DataW.trod_int Tryd.underlying2 (x := y1) h1
        obtain ⟨z2, e2, _, r2⟩ := DataW.trod_int Tryd.underlying22 (x := y2) h2
        obtain ⟨s, e3, _, _⟩ := DataW.trod_string Tryd.underlying9 (x := y3) h3
        obtain ⟨a, len, cap, l, e4, hr, hq⟩ := open_rows (c := c4) El.cells (ElOK W) 5 (fun _ => rfl) (by omega) Tryd.underlying23 co25 (fun n' cs' y' hn' h' => ih n' (by omega) h') h4
        have e0' : [c0] = [Value.int .i64 z0] := e0
        have e1' : [c1] = [Value.int .i64 z1] := e1
        have e2' : [c2] = [Value.int .u64 z2] := e2
        have e3' : [c3] = [Value.string s] := e3
        simp only [List.cons.injEq, and_true] at e0' e1' e2' e3'
        have g1 := bounds_i64 r1
        have g2 := bounds_u64 r2
        refine ⟨⟨z0, z1, z2, s.data.toList, foOf l, a, len, cap⟩, ?_, ⟨_, ⟨hr, hr.ltb⟩, At_of l hq⟩, ⟨(show (0 : Int) ≤ z2 ∧ z2 < 18446744073709551616 by omega), g1⟩, plain_of l (fun x hx => (hq x hx).2)⟩
        rw [e0', e1', e2', e3', e4]
        show _ = [Value.int .i64 z0, .int .i64 z1, .int .u64 z2, .string ⟨s.data.toList.toArray⟩, .slice a len cap]
        rw [Lib.mk_data]
theorem array5 {cs : Array Value} (h : cs.size = 5) : ∃ c0 c1 c2 c3 c4, cs = #[c0, c1, c2, c3, c4] := by
  obtain ⟨l⟩ := cs
  match l, h with
  | [c0, c1, c2, c3, c4], _ => exact ⟨c0, c1, c2, c3, c4, rfl⟩
theorem open_datum {H : Type} {enc : TypeId × Value → H} {W : World} {cs : Array Value} {fuel : Nat} {y : DataW H × List MemPlace} (hsz : cs.size = Tryd.prog.cellsOf 25)
    (h : DataW.trod enc Tryd.prog W 0 (fun _ => true) true fuel 25 (Value.agg cs).cells.toList = some y) :
    ∃ (d : Dt) (l : Option Addr) (n c : Nat), cs = #[.int .i64 d.k, .int .i64 d.i, .int .u64 d.b, .string ⟨d.t.toArray⟩, .slice l n c] ∧ FoAt (fun b => b < W.heap.size) W d.l l n c ∧ d.fo.plain := by
  rw [co25] at hsz
  obtain ⟨c0, c1, c2, c3, c4, rfl⟩ := array5 hsz
  obtain ⟨x, e, hx⟩ := open_el fuel h
  refine ⟨⟨x.k, x.i, x.b, x.t, x.kids⟩, x.l, x.n, x.c, ?_, hx.1, hx.2.1, hx.2.2, trivial⟩
  have e' : [c0, c1, c2, c3, c4] = x.cells := e
  unfold El.cells at e'
  simp only [List.cons.injEq, and_true] at e'
  obtain ⟨rfl, rfl, rfl, rfl, rfl⟩ := e'
  rfl
end Go.Proofs.YtofpdhkdnbnobaaDoor
