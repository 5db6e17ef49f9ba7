/-
  What a copying leaves: the wrappers stay, its error is not the end. No program in sight. Not a statement of the seat.
-/
import Derived.Test.YtigfgdefgnahpaaDoorRun
namespace Go.Proofs.YtigfgdefgnahpaaDoor

theorem tailE_some {e e' : Int} (h : tailE e = some e') : e' ≠ -1 := by
  unfold tailE at h
  split at h
  · cases h; decide
  · split at h
    · cases h
    · cases h; assumption
theorem addK_fst (n : Nat) (l : List KW) : (l.map (addK n)).map (·.1) = l.map (·.1) := by
  rw [List.map_map]; rfl
theorem bufRound_stays {p m : Nat} {c : Cp} (h : CpOk p c) : (bufRound m c).1.l.map Wr.op = c.l.map Wr.op ∧ (bufRound m c).1.k.map (·.1) = c.k.map (·.1) ∧ ∀ e, (bufRound m c).2 = some e → e ≠ -1 := by
  have g := readM_good c.l c.s m h.s h.l
  unfold bufRound
  dsimp only
  split
  · exact ⟨g.ops, rfl, fun e he => tailE_some he⟩
  · split
    · exact ⟨g.ops, addK_fst _ _, fun e he => by cases he; decide⟩
    · split
      · exact ⟨g.ops, addK_fst _ _, fun e he => by cases he; decide⟩
      · split
        · exact ⟨g.ops, addK_fst _ _, fun e he => by cases he; decide⟩
        · exact ⟨g.ops, addK_fst _ _, fun e he => tailE_some he⟩
theorem readRound_stays {p m : Nat} {c : Cp} (h : CpOk p c) : (readRound m c).1.l.map Wr.op = c.l.map Wr.op ∧ (readRound m c).1.k.map (·.1) = c.k.map (·.1) ∧ ∀ e, (readRound m c).2 = some e → e ≠ -1 := by
  have g := readM_good c.l c.s m h.s h.l
  unfold readRound
  dsimp only
  refine ⟨g.ops, rfl, fun e he => ?_⟩
  split at he
  · cases he; decide
  · exact tailE_some he
theorem runM_stays {p : Nat} {round : Cp → Cp × Option Int} (hr : ∀ c, CpOk p c → (round c).1.l.map Wr.op = c.l.map Wr.op ∧ (round c).1.k.map (·.1) = c.k.map (·.1) ∧ ∀ e, (round c).2 = some e → e ≠ -1)
    (ho : ∀ c, CpOk p c → (round c).2 = none → CpOk p (round c).1) : ∀ (f : Nat) (c : Cp), CpOk p c → (runM round f c).1.l.map Wr.op = c.l.map Wr.op ∧ (runM round f c).1.k.map (·.1) = c.k.map (·.1) ∧ (runM round f c).2 ≠ -1
  | 0, c, _ => ⟨rfl, rfl, by show (0 : Int) ≠ -1; decide⟩
  | f + 1, c, h => by
    obtain ⟨h1, h2, h3⟩ := hr c h
    cases he : (round c).2 with
    | some e => rw [runM_stop he]; exact ⟨h1, h2, h3 e he⟩
    | none =>
      rw [runM_more he]
      obtain ⟨i1, i2, i3⟩ := runM_stays hr ho f _ (ho c h he)
      exact ⟨i1.trans h1, i2.trans h2, i3⟩
theorem writesE_ne (c : Cp) : writesE c ≠ -1 := by
  unfold writesE
  split
  · split <;> decide
  · split
    · decide
    · split
      · decide
      · split
        · decide
        · split <;> decide
theorem copyM_stays {p : Nat} {sh : Sh} {sk : Sk} {bulk m F : Nat} {c : Cp} (h : CpOk p c) (hm : 1 ≤ m) (hb : sk.rd = true → 1 ≤ bulk) :
    (copyM sh sk bulk m F c).1.l.map Wr.op = c.l.map Wr.op ∧ (copyM sh sk bulk m F c).1.k.map (·.1) = c.k.map (·.1) ∧ (copyM sh sk bulk m F c).2.1 ≠ -1 := by
  unfold copyM
  by_cases h1 : fastB sh.wr c.l = true
  · rw [if_pos h1]
    refine ⟨?_, ?_, writesE_ne c⟩
    · show (countAll (wrote c) c.l).map Wr.op = _
      unfold countAll
      rw [List.map_map]; rfl
    · show (writesC c).k.map (·.1) = _
      unfold writesC
      split
      · rfl
      · exact addK_fst _ _
  · rw [if_neg h1]
    by_cases h2 : fastK sk.rd c.k = true
    · rw [if_pos h2]
      have hb' := hb (by unfold fastK at h2; simp at h2; exact h2.1)
      obtain ⟨i1, i2, i3⟩ := runM_stays (p := p) (fun c hc => readRound_stays (m := bulk) hc) (fun c hc he => (readRound_ok hc hb' he).1) F c h
      exact ⟨i1, by show (List.map (addK _) _).map (·.1) = _; rw [addK_fst]; exact i2, i3⟩
    · rw [if_neg h2]
      exact runM_stays (p := p) (fun c hc => bufRound_stays (m := m) hc) (fun c hc he => (bufRound_ok hc hm he).1) F c h
end Go.Proofs.YtigfgdefgnahpaaDoor
