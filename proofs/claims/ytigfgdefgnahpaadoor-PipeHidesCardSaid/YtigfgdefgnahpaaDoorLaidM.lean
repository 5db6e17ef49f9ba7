/-
  From the reading of an argument to the words of the walks: a slice of integers reads as a row of cells. Not a statement of the seat.
-/
import Derived.Test.YtigfgdefgnahpaaDoorKitM
import Derived.ProofKit
import Derived.OpenShut
import Derived.ChangeOld
import Derived.Test.YtigfgdefgnahpaaDoorRows
import Derived.ChangeSame
import Derived.ChangeVars
import Derived.JoinedOf
import Derived.RowKit
import Derived.RowKitTokens
import Derived.LaidLaws
import Derived.LaidMore
import Derived.LaidHandle
import Derived.Stop.Joined
namespace Go.Proofs.YtigfgdefgnahpaaDoor
open Go.RowKit Go.ChangeShapes Go.WideShapes Go.ChangeAt

theorem rd_of_ints {W : World} {k : IntKind} {a : Addr} {len cap : Nat} {zs : List Int} (hl : len ≤ cap) (hm : cap ≤ maxLen) (hz : zs.length = cap)
    (hcell : ∀ i, i < zs.length → W.cell? (a.add i) = some (.int k (zs.getD i 0))) : Rd W 1 (some a) len cap ((zs.take len).map (Value.int k)) := by
  refine ⟨by simp; omega, hl, hm, ?_⟩
  by_cases h0 : len = 0
  · exact .inl ⟨h0, fun h => by cases h⟩
  · obtain ⟨b, off, spot⟩ := a
    have hc := hcell 0 (by omega)
    have hspot : spot = none := by simpa [Addr.add] using World.cell?_spot hc
    subst hspot
    refine .inr ⟨b, off, rfl, ?_, fun j hj => ?_⟩
    · exact World.block_lt_of_cell? W ⟨b, off, none⟩ (by simpa [Addr.add] using hc)
    · simp only [List.length_map, List.length_take] at hj
      have h1 := hcell j (by omega)
      rw [Addr.add_lit] at h1
      rw [h1]
      have h2 : j < zs.length := by omega
      have h3 : j < len := by omega
      simp [h3, h2]

/-- A slice of integers, by its reading (of the mode in which arguments are read). -/
theorem open_rd {H : Type} {enc : TypeId × Value → H} {P : Program} {W : World} {t e : TypeId} {k : IntKind} {fuel : Nat} {c : Value} {x : DataW H × List MemPlace} (ht : P.underlying t = some (.slice e)) (he : P.underlying e = some (.int k)) (hc : P.cellsOf e = 1)
    (h : DataW.trod enc P W 0 (fun _ => true) true fuel t [c] = some x) :
    ∃ a len cap zs, c = .slice a len cap ∧ Rd W 1 a len cap (List.map (Value.int k) zs) ∧ ∀ n ∈ zs, (Lit.int k n).wf = true := by
  rcases open_ints ht he hc h with ⟨hcs, _⟩ | ⟨x, l, cp, zs, hcs, _, hl, hm, hz, _, hcell, hwz⟩
  · exact ⟨none, 0, 0, [], by simpa using hcs, Rd.nil _ _, fun _ h => by cases h⟩
  · exact ⟨some x, l, cp, zs.take l, by simpa using hcs, rd_of_ints hl hm (by simpa using hz) hcell, fun n hn => hwz n (List.mem_of_mem_take hn)⟩

theorem flatMap_get {α : Type} (f : α → List Value) (sz : Nat) (hf : ∀ x, (f x).length = sz) : ∀ (l : List α) (i r : Nat) (hi : i < l.length), r < sz → (l.flatMap f)[i * sz + r]? = (f (l[i]'hi))[r]?
  | [], i, r, hi, _ => by simp at hi
  | a :: t, 0, r, hi, hr => by
    simp only [List.flatMap_cons, Nat.zero_mul, Nat.zero_add, List.getElem_cons_zero]
    rw [List.getElem?_append_left (by rw [hf]; exact hr)]
  | a :: t, i + 1, r, hi, hr => by
    simp only [List.flatMap_cons, List.getElem_cons_succ]
    rw [List.getElem?_append_right (by rw [hf, Nat.add_mul]; omega), hf, ← flatMap_get f sz hf t i r (by simpa using hi) hr]
    congr 1
    rw [Nat.add_mul]; omega
theorem flatMap_len {α : Type} (f : α → List Value) (sz : Nat) (hf : ∀ x, (f x).length = sz) : ∀ (l : List α), (l.flatMap f).length = l.length * sz
  | [] => by simp
  | a :: t => by simp only [List.flatMap_cons, List.length_append, hf, flatMap_len f sz hf t, List.length_cons, Nat.add_mul]; omega


/-- A slice whose elements have a reading each: by its reading. -/
theorem open_rows {α H : Type} {enc : TypeId × Value → H} {P : Program} {W : World} {t e : TypeId} {fuel : Nat} {c : Value} {x : DataW H × List MemPlace} (f : α → List Value) (Q : α → Prop) (sz : Nat) (hf : ∀ x, (f x).length = sz) (hsz : 1 ≤ sz)
    (ht : P.underlying t = some (.slice e)) (hc : P.cellsOf e = sz)
    (ho : ∀ (n : Nat) (cs : List Value) (y : DataW H × List MemPlace), DataW.trod enc P W 0 (fun _ => true) true n e cs = some y → ∃ x, cs = f x ∧ Q x)
    (h : DataW.trod enc P W 0 (fun _ => true) true fuel t [c] = some x) :
    ∃ (a : Option Addr) (len cap : Nat) (l : List α), c = .slice a len cap ∧ Rd W sz a len cap (l.flatMap f) ∧ ∀ x ∈ l, Q x := by
  rcases DataW.trod_slice ht h with ⟨h0, _⟩ | ⟨a, len, cap, elems, rest, n, _, hcs, _, hb, hl, hm, hlen, hel, _, _⟩
  · exact ⟨none, 0, 0, [], by simpa using h0, Rd.nil _ _, fun _ h => absurd h (by simp)⟩
  have hex : ∀ i : Fin len, ∃ x : α, W.cells? 0 (a.add (i.1 * sz)) sz = some (f x) ∧ Q x := by
    intro i
    have h1 := hel i.1 i.2
    rw [hc] at h1
    have h2 : i.1 < elems.length := by have := i.2; omega
    rw [List.getElem?_eq_getElem h2, Option.bind_eq_some_iff] at h1
    obtain ⟨cs', hcs', hy⟩ := h1
    obtain ⟨x, rfl, hq⟩ := ho _ _ _ hy
    exact ⟨x, hcs', hq⟩
  refine ⟨some a, len, cap, List.ofFn (fun i : Fin len => (Classical.choose (hex i) : α)), by simpa using hcs, ?_, ?_⟩
  · have hlen2 : (List.ofFn (fun i : Fin len => (Classical.choose (hex i) : α))).length = len := by simp
    refine ⟨by rw [flatMap_len f sz hf, hlen2], hl, hm, ?_⟩
    by_cases h0 : len = 0
    · exact .inl ⟨h0, fun h => by cases h⟩
    · have hcell : ∀ (i r : Nat), i < len → (hr : r < sz) → W.cell? (a.add (i * sz + r)) = ((List.ofFn (fun i : Fin len => (Classical.choose (hex i) : α))).flatMap f)[i * sz + r]? := by
        intro i r hi hr
        rw [flatMap_get f sz hf _ i r (by rw [hlen2]; exact hi) hr]
        have h1 := (Classical.choose_spec (hex ⟨i, hi⟩)).1
        have h2 := (World.cells?_some h1).2.2 r hr
        have h3 : (a.add (i * sz)).add r = a.add (i * sz + r) := by
          unfold Addr.add
          by_cases e1 : r = 0
          · subst e1; simp
          · by_cases e2 : i * sz = 0
            · simp [e1, e2]
            · simp [e1, e2, Nat.add_assoc]
        rw [← h3]
        simpa using h2
      obtain ⟨b, off, spot⟩ := a
      have hc0 := hcell 0 0 (by omega) (by omega)
      simp only [Nat.zero_mul, Nat.zero_add] at hc0
      have hpos : 0 < ((List.ofFn (fun i : Fin len => (Classical.choose (hex i) : α))).flatMap f).length := by rw [flatMap_len f sz hf, hlen2]; exact Nat.mul_pos (by omega) (by omega)
      rw [List.getElem?_eq_getElem hpos] at hc0
      have hspot : spot = none := by simpa [Addr.add] using World.cell?_spot hc0
      subst hspot
      refine .inr ⟨b, off, rfl, ?_, fun j hj => ?_⟩
      · exact World.block_lt_of_cell? W ⟨b, off, none⟩ (by simpa [Addr.add] using hc0)
      · rw [flatMap_len f sz hf, hlen2] at hj
        have h1 := hcell (j / sz) (j % sz) (by rw [Nat.div_lt_iff_lt_mul (by omega)]; exact hj) (Nat.mod_lt _ (by omega))
        rw [Nat.mul_comm, Nat.div_add_mod, Addr.add_lit] at h1
        exact h1
  · intro x hx
    obtain ⟨i, hi⟩ := List.mem_ofFn.1 hx
    rw [← hi]
    exact (Classical.choose_spec (hex i)).2

theorem co2 : Tryd.prog.cellsOf 2 = 1 := by kernel_rfl
theorem co3 : Tryd.prog.cellsOf 3 = 1 := by kernel_rfl
theorem co4 : Tryd.prog.cellsOf 4 = 1 := by kernel_rfl
theorem co9 : Tryd.prog.cellsOf 9 = 1 := by kernel_rfl
theorem co22 : Tryd.prog.cellsOf 22 = 1 := by kernel_rfl
theorem co23 : Tryd.prog.cellsOf 23 = 1 := by kernel_rfl
theorem co25 : Tryd.prog.cellsOf 25 = 6 := by kernel_rfl
theorem co27 : Tryd.prog.cellsOf 27 = 5 := by kernel_rfl
theorem co29 : Tryd.prog.cellsOf 29 = 6 := by kernel_rfl
theorem co43 : Tryd.prog.cellsOf 43 = 7 := by kernel_rfl

set_option maxRecDepth 100000 in
/-- a sink's five cells -/
theorem open_sink0 {H : Type} {enc : TypeId × Value → H} {W : World} {n : Nat} {cs : List Value} {y : DataW H × List MemPlace} (h : DataW.trod enc Tryd.prog W 0 (fun _ => true) true n 27 cs = some y) :
    ∃ a len cap zs room over rd bk, cs = [.slice a len cap, .int .i64 room, .bool over, .bool rd, .int .i64 bk] ∧ Rd W 1 a len cap (I3 zs) := by
  obtain ⟨xs, m, _, _, hl, hlen, hf⟩ := DataW.trod_struct Tryd.underlying27 h
  rw [co27] at hl
  match cs, hl with
  | [c0, c1, c2, c3, c4], _ =>
    match xs, hlen with
    | [y0, y1, y2, y3, y4], _ =>
      have h0 := hf 0 _ rfl
      have h1 := hf 1 _ rfl
      have h2 := hf 2 _ rfl
      have h3 := hf 3 _ rfl
      have h4 := hf 4 _ rfl
      rw [show Tryd.prog.cellsOf (Field.type _) = 1 from co22] at h0
      rw [show Tryd.prog.cellsOf (Field.type _) = 1 from co3] at h1
      rw [show Tryd.prog.cellsOf (Field.type _) = 1 from co4] at h2
      rw [show Tryd.prog.cellsOf (Field.type _) = 1 from co4] at h3
      rw [show Tryd.prog.cellsOf (Field.type _) = 1 from co3] at h4
      obtain ⟨a, len, cap, zs, e0, hr, _⟩ := open_rd (c := c0) Tryd.underlying22 Tryd.underlying3 co3 h0
      obtain ⟨z1, e1, _, _⟩ := DataW.trod_int Tryd.underlying3 (x := y1) h1
      obtain ⟨z2, e2, _, _⟩ := DataW.trod_bool Tryd.underlying4 (x := y2) h2
      obtain ⟨z3, e3, _, _⟩ := DataW.trod_bool Tryd.underlying4 (x := y3) h3
      obtain ⟨z4, e4, _, _⟩ := DataW.trod_int Tryd.underlying3 (x := y4) h4
      have e1' : [c1] = [Value.int .i64 z1] := e1
      have e2' : [c2] = [Value.bool z2] := e2
      have e3' : [c3] = [Value.bool z3] := e3
      have e4' : [c4] = [Value.int .i64 z4] := e4
      simp only [List.cons.injEq, and_true] at e1' e2' e3' e4'
      exact ⟨a, len, cap, zs, z1, z2, z3, z4, by rw [e0, e1', e2', e3', e4'], hr⟩
/-- what is known of a wrapper that has come in -/
def PpOK (W : World) (p : Pp) : Prop := (-9223372036854775808 ≤ p.n ∧ p.n ≤ 9223372036854775807) ∧ p.zs.length = p.sn ∧ Rd W 1 p.sa p.sn p.sc (I3 p.zs)
set_option maxRecDepth 100000 in
theorem open_pipe {H : Type} {enc : TypeId × Value → H} {W : World} {n : Nat} {cs : List Value} {y : DataW H × List MemPlace} (h : DataW.trod enc Tryd.prog W 0 (fun _ => true) true n 43 cs = some y) :
    ∃ p : Pp, cs = p.cells ∧ PpOK W p := by
  obtain ⟨xs, m, _, _, hl, hlen, hf⟩ := DataW.trod_struct Tryd.underlying43 h
  rw [co43] at hl
  match cs, hl with
  | [c0, c1, c2, c3, c4, c5, c6], _ =>
    match xs, hlen with
    | [y0, y1, y2], _ =>
      have h0 := hf 0 _ rfl
      have h1 := hf 1 _ rfl
      have h2 := hf 2 _ rfl
      rw [show Tryd.prog.cellsOf (Field.type _) = 1 from co3] at h0
      rw [show Tryd.prog.cellsOf (Field.type _) = 1 from co2] at h1
      rw [show Tryd.prog.cellsOf (Field.type _) = 5 from co27] at h2
      obtain ⟨z0, e0, _, _⟩ := DataW.trod_int Tryd.underlying3 (x := y0) h0
      obtain ⟨z1, e1, _, w1⟩ := DataW.trod_int Tryd.underlying2 (x := y1) h1
      obtain ⟨a, len, cap, zs, room, over, rd, bk, e2, hr⟩ := open_sink0 h2
      have e0' : [c0] = [Value.int .i64 z0] := e0
      have e1' : [c1] = [Value.int .i64 z1] := e1
      have e2' : [c2, c3, c4, c5, c6] = [.slice a len cap, .int .i64 room, .bool over, .bool rd, .int .i64 bk] := e2
      simp only [List.cons.injEq, and_true] at e0' e1' e2'
      obtain ⟨f2, f3, f4, f5, f6⟩ := e2'
      refine ⟨⟨z0, z1, a, len, cap, zs, room, over, rd, bk⟩, by rw [e0', e1', f2, f3, f4, f5, f6]; rfl, ?_, ?_, hr⟩
      · have := w1
        simp [Lit.wf] at this
        have hm : IntKind.i64.min = -9223372036854775808 := by rfl
        rw [hm] at this
        exact this
      · have := hr.len
        simpa [I3] using this

theorem pipes_of {W : World} {a : Option Addr} {len cap : Nat} {ps : List Pp} (h : Rd W 7 a len cap (ps.flatMap Pp.cells)) (hp : ∀ p ∈ ps, PpOK W p) : Pipes W free a len cap ps :=
  ⟨⟨h, .inr (fun _ _ => rfl)⟩, fun p hx => ⟨(hp p hx).2.2, .inr (fun _ _ => rfl)⟩⟩
theorem PpCells_len (p : Pp) : (Pp.cells p).length = 7 := rfl
theorem array6 {cs : Array Value} (h : cs.size = 6) : ∃ c0 c1 c2 c3 c4 c5, cs = #[c0, c1, c2, c3, c4, c5] := by
  obtain ⟨l⟩ := cs
  match l, h with
  | [c0, c1, c2, c3, c4, c5], _ => exact ⟨c0, c1, c2, c3, c4, c5, rfl⟩
set_option maxRecDepth 100000 in
theorem open_source {H : Type} {enc : TypeId × Value → H} {W : World} {cs : Array Value} {fuel : Nat} {y : DataW H × List MemPlace} (hsz : cs.size = Tryd.prog.cellsOf 25)
    (hf0 : DataW.trod enc Tryd.prog W 0 (fun _ => true) true fuel 25 (Value.agg cs).cells.toList = some y) :
    ∃ dat sa sn sc early broken wr pa pn pc zs ps, cs = #[.string dat, .slice sa sn sc, .bool early, .bool broken, .bool wr, .slice pa pn pc] ∧ RdK W free none 1 sa sn sc (I3 zs) ∧ Pipes W free pa pn pc ps ∧ ∀ p ∈ ps, PpOK W p := by
  rw [co25] at hsz
  obtain ⟨c0, c1, c2, c3, c4, c5, rfl⟩ := array6 hsz
  obtain ⟨xs, m, _, _, _, hlen, hf⟩ := DataW.trod_struct Tryd.underlying25 hf0
  match xs, hlen with
  | [y0, y1, y2, y3, y4, y5], _ =>
    have h0 := hf 0 _ rfl
    have h1 := hf 1 _ rfl
    have h2 := hf 2 _ rfl
    have h3 := hf 3 _ rfl
    have h4 := hf 4 _ rfl
    have h5 := hf 5 _ rfl
    rw [show Tryd.prog.cellsOf (Field.type _) = 1 from co9] at h0
    rw [show Tryd.prog.cellsOf (Field.type _) = 1 from co22] at h1
    rw [show Tryd.prog.cellsOf (Field.type _) = 1 from co4] at h2
    rw [show Tryd.prog.cellsOf (Field.type _) = 1 from co4] at h3
    rw [show Tryd.prog.cellsOf (Field.type _) = 1 from co4] at h4
    rw [show Tryd.prog.cellsOf (Field.type _) = 1 from co23] at h5
    obtain ⟨z0, e0, _, _⟩ := DataW.trod_string Tryd.underlying9 (x := y0) h0
    obtain ⟨a, len, cap, zs, e1, hr, _⟩ := open_rd (c := c1) Tryd.underlying22 Tryd.underlying3 co3 h1
    obtain ⟨z2, e2, _, _⟩ := DataW.trod_bool Tryd.underlying4 (x := y2) h2
    obtain ⟨z3, e3, _, _⟩ := DataW.trod_bool Tryd.underlying4 (x := y3) h3
    obtain ⟨z4, e4, _, _⟩ := DataW.trod_bool Tryd.underlying4 (x := y4) h4
    obtain ⟨pa, pn, pc, ps, e5, hrp, hq⟩ := open_rows (c := c5) Pp.cells (PpOK W) 7 PpCells_len (by omega) Tryd.underlying23 co43 (fun n cs y h => open_pipe h) h5
    have e0' : [c0] = [Value.string z0] := e0
    have e2' : [c2] = [Value.bool z2] := e2
    have e3' : [c3] = [Value.bool z3] := e3
    have e4' : [c4] = [Value.bool z4] := e4
    simp only [List.cons.injEq, and_true] at e0' e2' e3' e4'
    exact ⟨z0, a, len, cap, z2, z3, z4, pa, pn, pc, zs, ps, by rw [e0', e1, e2', e3', e4', e5], ⟨hr, .inr (fun _ _ => rfl)⟩, pipes_of hrp hq, hq⟩
set_option maxRecDepth 100000 in
theorem open_sink {H : Type} {enc : TypeId × Value → H} {W : World} {cs : Array Value} {fuel : Nat} {y : DataW H × List MemPlace} (hsz : cs.size = Tryd.prog.cellsOf 29)
    (hf0 : DataW.trod enc Tryd.prog W 0 (fun _ => true) true fuel 29 (Value.agg cs).cells.toList = some y) :
    ∃ ta tn tc room over rd bk qa qn qc tzs qs, cs = #[.slice ta tn tc, .int .i64 room, .bool over, .bool rd, .int .i64 bk, .slice qa qn qc] ∧ RdK W free none 1 ta tn tc (I3 tzs) ∧ Pipes W free qa qn qc qs ∧ ∀ p ∈ qs, PpOK W p := by
  rw [co29] at hsz
  obtain ⟨c0, c1, c2, c3, c4, c5, rfl⟩ := array6 hsz
  obtain ⟨xs, m, _, _, _, hlen, hf⟩ := DataW.trod_struct Tryd.underlying29 hf0
  match xs, hlen with
  | [y0, y1], _ =>
    have h0 := hf 0 _ rfl
    have h1 := hf 1 _ rfl
    rw [show Tryd.prog.cellsOf (Field.type _) = 5 from co27] at h0
    rw [show Tryd.prog.cellsOf (Field.type _) = 1 from co23] at h1
    obtain ⟨a, len, cap, zs, room, over, rd, bk, e0, hr⟩ := open_sink0 h0
    obtain ⟨pa, pn, pc, ps, e5, hrp, hq⟩ := open_rows (c := c5) Pp.cells (PpOK W) 7 PpCells_len (by omega) Tryd.underlying23 co43 (fun n cs y h => open_pipe h) h1
    have e0' : [c0, c1, c2, c3, c4] = [.slice a len cap, .int .i64 room, .bool over, .bool rd, .int .i64 bk] := e0
    simp only [List.cons.injEq, and_true] at e0'
    obtain ⟨f0, f1, f2, f3, f4⟩ := e0'
    exact ⟨a, len, cap, room, over, rd, bk, pa, pn, pc, zs, ps, by rw [f0, f1, f2, f3, f4, e5], ⟨hr, .inr (fun _ _ => rfl)⟩, pipes_of hrp hq, hq⟩
end Go.Proofs.YtigfgdefgnahpaaDoor

/-
  What the rows' condition on the package-level variables gives a walk; a world that meets it. Not a statement of the seat.
-/
namespace Go.Proofs.YtigfgdefgnahpaaDoor
open Go.ChangeShapes Go.WideShapes Go.RowKit

theorem gE : Tryd.prog.globalNamed "conduit/pipe.errEOF" = some 0 := by kernel_rfl
theorem gT : Tryd.prog.globalNamed "errors.errorType" = some 1 := by kernel_rfl
theorem tE : (Tryd.prog.globals[0]?).map (·.type) = some 68 := by kernel_rfl
theorem rt157 : (Tryd.prog.cutTypes.find? (·.1 == "internal/reflectlite.rtype")).map (·.2) = some 157 := by kernel_rfl
theorem oneRow68 : ((List.range Tryd.prog.types.size).filter fun t => Tryd.prog.rowNamed t [101, 114, 114, 111, 114]) = [68] := by kernel_rfl
theorem co193 : Tryd.prog.cellsOf 193 = 1 := by kernel_rfl
theorem starE : "*" ++ "errors.errorString" = "*errors.errorString" := by decide
theorem row170 (u : TypeId) (h : Tryd.prog.typeName? 3 u = some "*errors.errorString") : u = 170 :=
  typeName_ptr_named (nm := "errors.errorString") (by rw [starE]; kernel_rfl) (by kernel_rfl) (by decide) u (by rw [starE]; exact h)

/-- the variables that the rows list, with what they hold -/
abbrev laidL : List (String × DataW Unit) := [("errors.errorType", Rows.laid_errors_errorType), ("conduit/pipe.errEOF", Rows.laid_conduit_pipe_errEOF)]
set_option maxRecDepth 100000 in
theorem laid_of {W : World} (h : laidMetH Tryd.prog laidL W) : ∃ eb, Laid eb W := by
  have h' : laidMet Tryd.prog [("conduit/pipe.errEOF", Rows.laid_conduit_pipe_errEOF)] W ∧ handlesMet Tryd.prog [("errors.errorType", Rows.laid_errors_errorType)] W := h
  obtain ⟨hm, hh⟩ := h'
  have h1 : W.cell? ⟨1, 0, none⟩ = some (.iface 157 (.agg #[.pointer (some ⟨2, 68, none⟩)])) := by
    obtain ⟨name, u, ty, e1, e2, e3, e4, e5⟩ := hh _ (List.mem_singleton.2 rfl)
    have en : name = [101, 114, 114, 111, 114] := (Option.some.inj e1).symm
    subst en
    obtain rfl := Option.some.inj (rt157.symm.trans e2)
    have hm : ty ∈ (List.range Tryd.prog.types.size).filter fun t => Tryd.prog.rowNamed t [101, 114, 114, 111, 114] := List.mem_filter.2 ⟨List.mem_range.2 e3, e4⟩
    rw [oneRow68] at hm
    obtain rfl := List.mem_singleton.1 hm
    have hh : typeHandle Tryd.prog 68 = .pointer (some ⟨2, 68, none⟩) := by kernel_rfl
    rw [hh] at e5
    simpa using World.var?_cell gT e5 0
  obtain ⟨ps, ⟨g0, t0, cs0, f0, p0, q0, hg0, ht0, hv0, hd0, hq0, e0⟩, _, hrows⟩ := hm
  obtain rfl := Option.some.inj (gE.symm.trans hg0)
  obtain rfl := Option.some.inj (tE.symm.trans ht0)
  subst e0
  obtain ⟨l0⟩ := cs0
  have ok0 : ∀ u v, l0 = [.iface u v] → Value.okWide Tryd.prog W .any 0 u v := fun u v e => by
    subst e
    exact (hrows 0 0 (by simp [MemPlace.row])).2 u v (by simpa using World.var?_cell hg0 hv0 0)
  obtain ⟨a, s, rfl, _, _, _, _⟩ := errorString_of_trod Tryd.underlying68 row170 Tryd.underlying170 Tryd.underlying193 rfl rfl Tryd.underlying9 co193 co9 hd0 ok0
  obtain ⟨eb, heb⟩ := adr_onto a
  refine ⟨eb, ?_, h1⟩
  unfold EOFv
  rw [heb]
  simpa using World.var?_cell hg0 hv0 0

/-- The door's own heap meets the condition. -/
theorem door_met (os : Os) (args : Array Value) : laidMetH Tryd.prog laidL ((World.doorLaid Tryd.prog 400 os).forCall (fun _ _ => 0) ⟨#[], args, []⟩).memory :=
  laidMetH_of_parts3 (fuel := 8) (laidMet_of_run' 8 (by kernel_rfl) (by kernel_rfl)) (by kernel_rfl) (by kernel_rfl)
theorem ownK : ownKnob Tryd.prog.godebug = none := by kernel_rfl
theorem laidOutK : laidOutB Tryd.prog = true := by kernel_rfl
end Go.Proofs.YtigfgdefgnahpaaDoor
