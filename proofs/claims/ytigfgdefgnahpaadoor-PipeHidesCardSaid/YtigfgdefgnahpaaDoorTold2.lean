/-
  What told reads: the sides and the counts of a chain, of a sink. Not a statement of the seat.
-/
import Derived.Test.YtigfgdefgnahpaaDoorTold
namespace Go.Proofs.YtigfgdefgnahpaaDoor
open Go.RowKit

def sideTs : List Wr → List Tank
  | [] => []
  | x :: l => if x.op = 4 then sideTs l ++ [x.tank] else sideTs l
def cntsOf : List Wr → List Int
  | [] => []
  | x :: l => if x.op = 2 then cntsOf l ++ [x.cnt] else cntsOf l
def cntsK : List KW → List Int
  | [] => []
  | x :: l => if x.1 then cntsK l ++ [x.2] else cntsK l

theorem SidesAt.append {w : World} {r : Own} {sp : List Value} {ts : List Tank} (h : SidesAt w r sp ts) {k b : Nat} {t : Tank} {rd : Bool} {bk : Int} (ht : TankAt w r k b t rd bk) : SidesAt w r (sp ++ [ptr b]) (ts ++ [t]) := by
  obtain ⟨h1, h2⟩ := h
  refine ⟨by simp [h1], fun i hi => ?_⟩
  by_cases hl : i < sp.length
  · obtain ⟨b', k', t', rd', bk', e1, e2, e3⟩ := h2 i hl
    exact ⟨b', k', t', rd', bk', by rw [List.getElem?_append_left hl]; exact e1, by rw [List.getElem?_append_left (by omega)]; exact e2, e3⟩
  · have : i = sp.length := by simp at hi; omega
    subst this
    exact ⟨b, k, t, rd, bk, by simp, by rw [h1]; simp, ht⟩
theorem CountsAt.append {w : World} {cp : List Value} {cs : List Int} (h : CountsAt w cp cs) {b : Nat} {c : Int} (hc : w.cell? ⟨b, 0, none⟩ = some (.int .i64 c)) : CountsAt w (cp ++ [ptr b]) (cs ++ [c]) := by
  obtain ⟨h1, h2⟩ := h
  refine ⟨by simp [h1], fun i hi => ?_⟩
  by_cases hl : i < cp.length
  · obtain ⟨b', c', e1, e2, e3⟩ := h2 i hl
    exact ⟨b', c', by rw [List.getElem?_append_left hl]; exact e1, by rw [List.getElem?_append_left (by omega)]; exact e2, e3⟩
  · have : i = cp.length := by simp at hi; omega
    subst this
    exact ⟨b, c, by simp, by rw [h1]; simp, hc⟩
theorem CountsAt.both {w : World} {cp cp' : List Value} {cs cs' : List Int} (h : CountsAt w cp cs) (g : CountsAt w cp' cs') : CountsAt w (cp ++ cp') (cs ++ cs') := by
  obtain ⟨h1, h2⟩ := h
  obtain ⟨g1, g2⟩ := g
  refine ⟨by simp [h1, g1], fun i hi => ?_⟩
  by_cases hl : i < cp.length
  · obtain ⟨b', c', e1, e2, e3⟩ := h2 i hl
    exact ⟨b', c', by rw [List.getElem?_append_left hl]; exact e1, by rw [List.getElem?_append_left (by omega)]; exact e2, e3⟩
  · obtain ⟨b', c', e1, e2, e3⟩ := g2 (i - cp.length) (by simp at hi; omega)
    exact ⟨b', c', by rw [List.getElem?_append_right (by omega)]; exact e1, by rw [List.getElem?_append_right (by omega), ← h1]; exact e2, e3⟩

theorem chainSides {w : World} {r : Own} {sh : Sh} : ∀ {l : List Wr} {v : Value} {s : Sc}, Chain w r sh v l s → SidesAt w r (sidesOf sh l) (sideTs l) ∧ CountsAt w (countsOf sh l) (cntsOf l)
  | [], _, _, _ => ⟨⟨rfl, fun i hi => by simp [sidesOf] at hi⟩, ⟨rfl, fun i hi => by simp [countsOf] at hi⟩⟩
  | x :: l, v, s, h => by
    obtain ⟨below, h1, h2⟩ := h
    obtain ⟨i1, i2⟩ := chainSides h1
    unfold WrapAt at h2
    simp only [sidesOf, countsOf, sideTs, cntsOf]
    by_cases e2 : x.op = 2
    · rw [if_pos e2] at h2
      obtain ⟨cb, _, _, hB, hEQ⟩ := h2
      rw [if_neg (by omega), if_neg (by omega), if_pos e2, if_pos e2, ← hEQ]
      exact ⟨i1, i2.append (hB.cell 0 rfl)⟩
    · rw [if_neg e2] at h2
      rw [if_neg e2, if_neg e2]
      by_cases e3 : x.op = 3
      · rw [if_neg (by omega), if_neg (by omega)]
        exact ⟨i1, i2⟩
      · rw [if_neg e3] at h2
        by_cases e4 : x.op = 4
        · rw [if_pos e4] at h2
          obtain ⟨tb, bk, _, hT, hEQ⟩ := h2
          rw [if_pos e4, if_pos e4, ← hEQ]
          exact ⟨i1.append hT, i2⟩
        · rw [if_neg e4, if_neg e4]
          exact ⟨i1, i2⟩
theorem sinkSides {w : World} {r : Own} {sk : Sk} {bk : Int} : ∀ {l : List KW} {v : Value} {t : Tank}, SinkAt w r sk bk v l t → CountsAt w (skCounts sk l) (cntsK l)
  | [], _, _, _ => ⟨rfl, fun i hi => by simp [skCounts] at hi⟩
  | x :: l, v, t, h => by
    obtain ⟨below, h1, h2⟩ := h
    have i1 := sinkSides h1
    unfold SinkWrap at h2
    simp only [skCounts, cntsK]
    by_cases e2 : x.1 = true
    · rw [if_pos e2] at h2
      obtain ⟨cb, _, _, hB, hEQ⟩ := h2
      rw [if_pos e2, if_pos e2, ← hEQ]
      exact i1.append (hB.cell 0 rfl)
    · rw [if_neg e2, if_neg e2]
      exact i1
theorem sidesOf_ops {sh : Sh} : ∀ {l l' : List Wr}, l'.map Wr.op = l.map Wr.op → sidesOf sh l' = sidesOf sh l ∧ countsOf sh l' = countsOf sh l
  | [], [], _ => ⟨rfl, rfl⟩
  | x :: l, y :: l', h => by
    simp only [List.map_cons, List.cons.injEq] at h
    obtain ⟨i1, i2⟩ := sidesOf_ops (sh := sh) h.2
    have hl : l'.length = l.length := by have := congrArg List.length h.2; simpa using this
    simp only [sidesOf, countsOf, h.1, i1, i2, hl]
    exact ⟨trivial, trivial⟩
theorem skCounts_ops {sk : Sk} : ∀ {l l' : List KW}, l'.map (·.1) = l.map (·.1) → skCounts sk l' = skCounts sk l
  | [], [], _ => rfl
  | x :: l, y :: l', h => by
    simp only [List.map_cons, List.cons.injEq] at h
    have i1 := skCounts_ops (sk := sk) h.2
    have hl : l'.length = l.length := by have := congrArg List.length h.2; simpa using this
    simp only [skCounts, h.1, i1, hl]
/-- the innermost source, the tank of a sink -/
theorem chainSrc {w : World} {r : Own} {sh : Sh} : ∀ {l : List Wr} {v : Value} {s : Sc}, Chain w r sh v l s → SrcAt w r (sh.bl 0) sh.wr s
  | [], _, _, h => by
    obtain ⟨fs, _, h2, h3⟩ := h
    rw [← h3]; exact h2
  | x :: l, _, _, h => by
    obtain ⟨below, h1, _⟩ := h
    exact chainSrc h1
theorem sinkTank {w : World} {r : Own} {sk : Sk} {bk : Int} : ∀ {l : List KW} {v : Value} {t : Tank}, SinkAt w r sk bk v l t → TankAt w r 40 (sk.bl 0) t sk.rd bk
  | [], _, _, h => by
    obtain ⟨fs, _, h2, h3⟩ := h
    rw [← h3]; exact h2
  | x :: l, _, _, h => by
    obtain ⟨below, h1, _⟩ := h
    exact sinkTank h1
end Go.Proofs.YtigfgdefgnahpaaDoor
