/-
  The document's state at one wrapper: what is read off it, what is set. Not a statement of the seat.
-/
import Derived.Test.YtigfgdefgnahpaaDoorWorkRead0
namespace Go.Proofs.YtigfgdefgnahpaaDoor
open Go.RowKit

theorem revAt {α : Type} (f : Wr → α) (pre : List Wr) (x : Wr) (l : List Wr) : ((pre ++ x :: l).reverse.map f)[l.length]? = some (f x) := by
  rw [List.reverse_append, List.reverse_cons, List.append_assoc, List.map_append, List.getElem?_append_right (by simp)]
  simp
theorem revSet {α : Type} (f : Wr → α) (pre : List Wr) (x y : Wr) (l : List Wr) : ((pre ++ x :: l).reverse.map f).set l.length (f y) = (pre ++ y :: l).reverse.map f := by
  rw [List.reverse_append, List.reverse_cons, List.append_assoc, List.map_append, List.set_append_right _ _ (by simp), List.reverse_append, List.reverse_cons, List.append_assoc, List.map_append]
  simp
theorem revSame {α : Type} (f : Wr → α) (pre : List Wr) {x y : Wr} (l : List Wr) (h : f y = f x) : (pre ++ y :: l).reverse.map f = (pre ++ x :: l).reverse.map f := by
  simp [h]

section
variable {w w' : World} {r r' : Own} {wb : Nat} {X : Wk} {pre l : List Wr} {x : Wr} {s : Sc} {k : List Int} {t : Tank}
theorem WorkAt.len {ws : List Wr} (h : WorkAt w r wb X ws s k t) : ws.length = X.pn := by
  obtain ⟨_, _, _, _, _, _, h1, _⟩ := h
  have := h1.1.rd.len
  simpa [I3] using this
theorem WorkAt.lt (h : WorkAt w r wb X (pre ++ x :: l) s k t) : l.length < X.pn := by
  have := h.len
  rw [← this, List.length_append, List.length_cons]; omega
theorem WorkAt.pipe (h : WorkAt w r wb X (pre ++ x :: l) s k t) : ∃ (b off : Nat) (p : Pp), X.pa = some ⟨b, off, none⟩ ∧ b < w.heap.size ∧ p.op = x.op ∧ ∀ i, i < 7 → w.cell? ⟨b, off + l.length * 7 + i, none⟩ = p.cells[i]? := by
  have hlt := h.lt
  obtain ⟨_, _, _, _, hP, _, _, _, _, _, _, _, hO⟩ := h
  obtain ⟨b, off, p, ha, hb, hp, _, hc⟩ := hP.at hlt
  refine ⟨b, off, p, ha, hb, ?_, hc⟩
  have h1 := revAt Wr.op pre x l
  rw [hO, List.getElem?_map, hp] at h1
  simpa using h1
theorem WorkAt.limAt (h : WorkAt w r wb X (pre ++ x :: l) s k t) : ∃ b off, X.a1 = some ⟨b, off, none⟩ ∧ b < w.heap.size ∧ w.cell? ⟨b, off + l.length, none⟩ = some (.int .i64 x.lim) ∧ w.frozen? ⟨b, off + l.length, none⟩ = false ∧ r b = some 1 := by
  have hlt := h.lt
  obtain ⟨_, _, _, _, _, _, hR, _⟩ := h
  obtain ⟨b, off, ha, _, hb, _, hf⟩ := hR.1.at1 hlt
  obtain ⟨b', off', ha', _, hc⟩ := hR.1.rd.at1 hlt
  rw [ha] at ha'; cases ha'
  refine ⟨b, off, ha, hb, ?_, hf, hR.2 b (by rw [ha]; rfl)⟩
  rw [hc, I3, List.getElem?_map, revAt]; rfl
theorem WorkAt.cntAt (h : WorkAt w r wb X (pre ++ x :: l) s k t) : ∃ b off, X.a3 = some ⟨b, off, none⟩ ∧ b < w.heap.size ∧ w.cell? ⟨b, off + l.length, none⟩ = some (.int .i64 x.cnt) ∧ w.frozen? ⟨b, off + l.length, none⟩ = false ∧ r b = some 2 := by
  have hlt := h.lt
  obtain ⟨_, _, _, _, _, _, _, _, hR, _⟩ := h
  obtain ⟨b, off, ha, _, hb, _, hf⟩ := hR.1.at1 hlt
  obtain ⟨b', off', ha', _, hc⟩ := hR.1.rd.at1 hlt
  rw [ha] at ha'; cases ha'
  refine ⟨b, off, ha, hb, ?_, hf, hR.2 b (by rw [ha]; rfl)⟩
  rw [hc, I3, List.getElem?_map, revAt]; rfl
theorem WorkAt.sideAt (h : WorkAt w r wb X (pre ++ x :: l) s k t) : (∃ b off, X.a2 = some ⟨b, off, none⟩ ∧ b < w.heap.size ∧ w.cell? ⟨b, off + l.length, none⟩ = some (.pointer (some ⟨X.bl l.length, 0, none⟩))) ∧ ∃ rd bk, TankAt w r (10 + l.length) (X.bl l.length) x.tank rd bk := by
  have hlt := h.lt
  obtain ⟨_, _, _, _, _, _, _, hR, _, _, _, hS, _⟩ := h
  obtain ⟨b, off, ha, hb, hc⟩ := hR.1.rd.at1 hlt
  refine ⟨⟨b, off, ha, hb, ?_⟩, hS l.length x.tank (revAt Wr.tank pre x l)⟩
  rw [hc, ptrsB, List.getElem?_map, List.getElem?_range hlt]; rfl

theorem WorkAt.setLim (h : WorkAt w r wb X (pre ++ x :: l) s k t) (hbnd : Bnd w r) {b off : Nat} (ha : X.a1 = some ⟨b, off, none⟩) (v : Int) :
    Step (· = 1) w r (w.setCell ⟨b, off + l.length, none⟩ (.int .i64 v)) r ∧ WorkAt (w.setCell ⟨b, off + l.length, none⟩ (.int .i64 v)) r wb X (pre ++ { x with lim := v } :: l) s k t := by
  obtain ⟨hwb, hB, hd, hZ, hP, hQ, hR1, hR2, hR3, hR4, hT, hS, hO⟩ := h
  have hb := hR1.2 b (by rw [ha]; rfl)
  have g : Step (· = 1) w r (w.setCell ⟨b, off + l.length, none⟩ (.int .i64 v)) r := (Step.refl _ hbnd).put _ (fun _ => ⟨1, hb, rfl⟩)
  refine ⟨g, hwb, hB.step g hwb (by omega), hd, hZ.step g (fun _ h => by cases h), hP.step g, hQ.step g, ⟨?_, hR1.2⟩, hR2.step g (by omega), ?_, hR4.step g (by omega), hT.step g (by omega), fun j tk hj => ?_, ?_⟩
  · have h1 := hR1.1.set ha (j := l.length) (.int .i64 v)
    have h2 := revSet Wr.lim pre x { x with lim := v } l
    rw [← h2, I3, List.map_set]
    exact h1
  · rw [revSame Wr.cnt pre (x := x) (y := { x with lim := v }) l rfl]
    exact hR3.step g (by omega)
  · rw [revSame Wr.tank pre (x := x) (y := { x with lim := v }) l rfl] at hj
    obtain ⟨rdj, bkj, hTj⟩ := hS j tk hj
    exact ⟨rdj, bkj, hTj.step g (by omega)⟩
  · rw [revSame Wr.op pre (x := x) (y := { x with lim := v }) l rfl]
    exact hO
theorem WorkAt.setCnt (h : WorkAt w r wb X (pre ++ x :: l) s k t) (hbnd : Bnd w r) {b off : Nat} (ha : X.a3 = some ⟨b, off, none⟩) (v : Int) :
    Step (· = 2) w r (w.setCell ⟨b, off + l.length, none⟩ (.int .i64 v)) r ∧ WorkAt (w.setCell ⟨b, off + l.length, none⟩ (.int .i64 v)) r wb X (pre ++ { x with cnt := v } :: l) s k t := by
  obtain ⟨hwb, hB, hd, hZ, hP, hQ, hR1, hR2, hR3, hR4, hT, hS, hO⟩ := h
  have hb := hR3.2 b (by rw [ha]; rfl)
  have g : Step (· = 2) w r (w.setCell ⟨b, off + l.length, none⟩ (.int .i64 v)) r := (Step.refl _ hbnd).put _ (fun _ => ⟨2, hb, rfl⟩)
  refine ⟨g, hwb, hB.step g hwb (by omega), hd, hZ.step g (fun _ h => by cases h), hP.step g, hQ.step g, ?_, hR2.step g (by omega), ⟨?_, hR3.2⟩, hR4.step g (by omega), hT.step g (by omega), fun j tk hj => ?_, ?_⟩
  · rw [revSame Wr.lim pre (x := x) (y := { x with cnt := v }) l rfl]
    exact hR1.step g (by omega)
  · have h1 := hR3.1.set ha (j := l.length) (.int .i64 v)
    have h2 := revSet Wr.cnt pre x { x with cnt := v } l
    rw [← h2, I3, List.map_set]
    exact h1
  · rw [revSame Wr.tank pre (x := x) (y := { x with cnt := v }) l rfl] at hj
    obtain ⟨rdj, bkj, hTj⟩ := hS j tk hj
    exact ⟨rdj, bkj, hTj.step g (by omega)⟩
  · rw [revSame Wr.op pre (x := x) (y := { x with cnt := v }) l rfl]
    exact hO
theorem WorkAt.setSide (h : WorkAt w r wb X (pre ++ x :: l) s k t) (g : Step (· = 10 + l.length) w r w' r') (tk : Tank) {rd : Bool} {bk : Int} (hT' : TankAt w' r' (10 + l.length) (X.bl l.length) tk rd bk) :
    WorkAt w' r' wb X (pre ++ { x with tank := tk } :: l) s k t := by
  obtain ⟨hwb, hB, hd, hZ, hP, hQ, hR1, hR2, hR3, hR4, hT, hS, hO⟩ := h
  refine ⟨g.oldK hB.lt hwb, hB.step g hwb (by omega), hd, hZ.step g (fun _ h => by cases h), hP.step g, hQ.step g, ?_, hR2.step g (by omega), ?_, hR4.step g (by omega), hT.step g (by omega), fun j tj hj => ?_, ?_⟩
  · rw [revSame Wr.lim pre (x := x) (y := { x with tank := tk }) l rfl]
    exact hR1.step g (by omega)
  · rw [revSame Wr.cnt pre (x := x) (y := { x with tank := tk }) l rfl]
    exact hR3.step g (by omega)
  · by_cases hjl : j = l.length
    · subst hjl
      rw [revAt] at hj
      cases hj
      exact ⟨rd, bk, hT'⟩
    · have h2 := revSet Wr.tank pre x { x with tank := tk } l
      rw [← h2, List.getElem?_set_ne (fun e => hjl e.symm)] at hj
      obtain ⟨rdj, bkj, hTj⟩ := hS j tj hj
      exact ⟨rdj, bkj, hTj.step g (by omega)⟩
  · rw [revSame Wr.op pre (x := x) (y := { x with tank := tk }) l rfl]
    exact hO
/-- another place in the source -/
theorem WorkAt.src {ws : List Wr} {s' : Sc} (h : WorkAt w r wb X ws s k t) (g : Step (· = 0) w r w' r') (hB : Blk w' wb (X.cells s' t)) (h1 : s'.data = s.data) (h2 : s'.sizes = s.sizes) : WorkAt w' r' wb X ws s' k t := by
  obtain ⟨hwb, hB0, hd, hZ, hP, hQ, hR1, hR2, hR3, hR4, hT, hS, hO⟩ := h
  refine ⟨g.oldK hB0.lt hwb, hB, by rw [h1]; exact hd, by rw [h2]; exact hZ.step g (fun _ h => by cases h), hP.step g, hQ.step g, hR1.step g (by omega), hR2.step g (by omega), hR3.step g (by omega), hR4.step g (by omega), hT.step g (by omega), fun j tj hj => ?_, hO⟩
  obtain ⟨rdj, bkj, hTj⟩ := hS j tj hj
  exact ⟨rdj, bkj, hTj.step g (by omega)⟩
/-- what turns nobody's block but new ones -/
theorem WorkAt.step {ws : List Wr} {K : Nat → Prop} (h : WorkAt w r wb X ws s k t) (g : Step K w r w' r') (hk : ∀ j, K j → 20 < j) (hl : ws.length ≤ 10) : WorkAt w' r' wb X ws s k t := by
  obtain ⟨hwb, hB0, hd, hZ, hP, hQ, hR1, hR2, hR3, hR4, hT, hS, hO⟩ := h
  have hn : ∀ j, j ≤ 20 → ¬ K j := fun j hj h => by have := hk j h; omega
  refine ⟨g.oldK hB0.lt hwb, hB0.step g hwb (hn _ (by omega)), hd, hZ.step g (fun _ h => by cases h), hP.step g, hQ.step g, hR1.step g (hn _ (by omega)), hR2.step g (hn _ (by omega)), hR3.step g (hn _ (by omega)), hR4.step g (hn _ (by omega)), hT.step g (hn _ (by omega)), fun j tj hj => ?_, hO⟩
  obtain ⟨rdj, bkj, hTj⟩ := hS j tj hj
  have := (List.getElem?_eq_some_iff.1 hj).1
  simp at this
  exact ⟨rdj, bkj, hTj.step g (hn _ (by omega))⟩
end
end Go.Proofs.YtigfgdefgnahpaaDoor
