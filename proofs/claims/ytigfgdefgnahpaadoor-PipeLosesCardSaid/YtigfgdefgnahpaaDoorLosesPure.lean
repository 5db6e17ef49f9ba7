/-
  Nothing is lost: what the sink has is a beginning of what there was. No program in sight. Not a statement of the seat.
-/
import Derived.Test.YtigfgdefgnahpaaDoorCopyPure
namespace Go.Proofs.YtigfgdefgnahpaaDoor

/-- while it goes on: all that was read is there -/
structure Even (c : Cp) : Prop where
  has : c.t.has = c.s.data.take c.s.pos
  tot : c.tot = c.s.pos
/-- at the end -/
structure Done (d : Bytes) (over : Bool) (c : Cp) : Prop where
  has : c.t.has = d.take c.t.has.length
  tot : over = true ∨ c.tot = c.t.has.length
  le : c.t.has.length ≤ d.length

theorem take_next (d : Bytes) (a b : Nat) : d.take a ++ (d.drop a).take b = d.take (a + b) := by rw [List.take_add]
theorem pre_of {d : Bytes} {a b : Nat} {h : Bytes} (hh : h = d.take a) (hb : a + b ≤ d.length) (n : Nat) (hn : n ≤ b) : (h ++ ((d.drop a).take b).take n) = d.take (a + n) ∧ (h ++ ((d.drop a).take b).take n).length = a + n := by
  have e : h ++ ((d.drop a).take b).take n = d.take (a + n) := by rw [hh, List.take_take, Nat.min_eq_left hn, take_next]
  refine ⟨e, ?_⟩
  rw [e, List.length_take]; omega

theorem Even.len {p : Nat} {c : Cp} (h : CpOk p c) (g : Even c) : c.t.has.length = c.s.pos := by
  rw [g.has, List.length_take]
  have := h.s.2.2.1
  omega
theorem said_cases (t : Tank) (n : Nat) : t.said n = t.took n ∨ (t.over = true ∧ t.full n = false ∧ t.said n = n + 1) := by
  unfold Tank.said
  cases hf : t.full n
  · cases ho : t.over
    · left; simp
    · right; simp
  · left; simp
section
variable {p m : Nat} {c : Cp}
theorem got_bounds (h : CpOk p c) : c.s.pos + (readM c.l c.s m).n ≤ c.s.data.length ∧ (readM c.l c.s m).s.data = c.s.data := by
  have g := readM_good c.l c.s m h.s h.l
  have h1 := g.ok.2.2.1
  have h2 := g.bytes
  have h3 := g.pos
  rw [g.data] at h1
  exact ⟨by omega, g.data⟩
theorem bufRound_even (h : CpOk p c) (g : Even c) : ((bufRound m c).2 = none → Even (bufRound m c).1) ∧ (∀ e, (bufRound m c).2 = some e → Done c.s.data c.t.over (bufRound m c).1) ∧ (bufRound m c).1.s.data = c.s.data ∧ (bufRound m c).1.t.over = c.t.over := by
  have gr := readM_good c.l c.s m h.s h.l
  obtain ⟨b1, b2⟩ := got_bounds (m := m) h
  have hlen := g.len h
  have hgl := got_length h m
  have hput : ∀ n, n = (readM c.l c.s m).n → (c.t.put (c.got m)).has = c.s.data.take (c.s.pos + c.t.took n) ∧ (c.t.put (c.got m)).has.length = c.s.pos + c.t.took n := by
    intro n hn
    have ht := took_le c.t n
    have := pre_of g.has b1 (c.t.took n) (by omega)
    unfold Tank.put
    rw [hgl, ← hn]
    exact this
  unfold bufRound
  dsimp only
  by_cases h0 : (readM c.l c.s m).n = 0
  · rw [if_pos h0]
    refine ⟨fun hn => ?_, fun e _ => ⟨?_, .inr ?_, ?_⟩, b2, rfl⟩
    · have he := tailE_none hn
      have hf := gr.full he
      have hp := gr.pos
      refine ⟨?_, ?_⟩
      · show c.t.has = (readM c.l c.s m).s.data.take (readM c.l c.s m).s.pos
        rw [b2, g.has]
        congr 1
        omega
      · show c.tot = (readM c.l c.s m).s.pos
        have := g.tot
        omega
    · show c.t.has = c.s.data.take c.t.has.length
      rw [hlen]; exact g.has
    · show c.tot = c.t.has.length
      rw [hlen]; exact g.tot
    · show c.t.has.length ≤ _
      omega
  · rw [if_neg h0]
    obtain ⟨p1, p2⟩ := hput _ rfl
    have ht := took_le c.t (readM c.l c.s m).n
    have hsd := said_cases c.t (readM c.l c.s m).n
    have hdone : ∀ q, (c.t.over = true ∨ q = c.s.pos + c.t.took (readM c.l c.s m).n) → Done c.s.data c.t.over { ((c.read m).put (c.got m)) with tot := q } := by
      intro q hq
      refine ⟨?_, ?_, ?_⟩
      · show (c.t.put (c.got m)).has = c.s.data.take (c.t.put (c.got m)).has.length
        rw [p2]; exact p1
      · rcases hq with hq | hq
        · exact .inl hq
        · right
          show q = (c.t.put (c.got m)).has.length
          rw [p2]; exact hq
      · show (c.t.put (c.got m)).has.length ≤ _
        rw [p2]; omega
    have htot := g.tot
    by_cases h1 : (readM c.l c.s m).n < c.t.said (readM c.l c.s m).n
    · rw [if_pos h1]
      refine ⟨(fun hn => by cases hn), fun e _ => ?_, b2, rfl⟩
      refine hdone c.tot (.inl ?_)
      rcases hsd with hs | hs
      · omega
      · exact hs.1
    · rw [if_neg h1]
      have hs : c.t.said (readM c.l c.s m).n = c.t.took (readM c.l c.s m).n := by
        rcases hsd with hs | hs
        · exact hs
        · omega
      have hd2 := hdone (c.tot + c.t.said (readM c.l c.s m).n) (.inr (by omega))
      by_cases h2 : c.t.full (readM c.l c.s m).n = true
      · rw [if_pos h2]
        exact ⟨(fun hn => by cases hn), fun e _ => hd2, b2, rfl⟩
      · rw [if_neg h2]
        by_cases h3 : c.t.said (readM c.l c.s m).n < (readM c.l c.s m).n
        · rw [if_pos h3]
          exact ⟨(fun hn => by cases hn), fun e _ => hd2, b2, rfl⟩
        · rw [if_neg h3]
          refine ⟨fun hn => ?_, fun e _ => hd2, b2, rfl⟩
          have he := tailE_none hn
          have hf := gr.full he
          have hp := gr.pos
          refine ⟨?_, ?_⟩
          · show (c.t.put (c.got m)).has = (readM c.l c.s m).s.data.take (readM c.l c.s m).s.pos
            rw [b2, p1]
            congr 1
            omega
          · show c.tot + c.t.said (readM c.l c.s m).n = (readM c.l c.s m).s.pos
            omega
theorem readRound_even (h : CpOk p c) (g : Even c) : ((readRound m c).2 = none → Even (readRound m c).1) ∧ (∀ e, (readRound m c).2 = some e → Done c.s.data c.t.over (readRound m c).1) ∧ (readRound m c).1.s.data = c.s.data ∧ (readRound m c).1.t.over = c.t.over := by
  have gr := readM_good c.l c.s m h.s h.l
  obtain ⟨b1, b2⟩ := got_bounds (m := m) h
  have hfl := fits_le c.t h.t (readM c.l c.s m).n
  have hpre := pre_of g.has b1 (c.t.fits (readM c.l c.s m).n) hfl
  have htot := g.tot
  refine ⟨fun hn => ?_, fun e _ => ⟨?_, .inr ?_, ?_⟩, b2, rfl⟩
  · unfold readRound at hn
    dsimp only at hn
    by_cases h1 : c.t.tight (readM c.l c.s m).n = true
    · rw [if_pos h1] at hn; cases hn
    · rw [if_neg h1] at hn
      have hf : c.t.fits (readM c.l c.s m).n = (readM c.l c.s m).n := by unfold Tank.fits; rw [if_neg h1]
      have he := tailE_none hn
      have hfu := gr.full he
      have hp := gr.pos
      refine ⟨?_, ?_⟩
      · show c.t.has ++ (c.got m).take (c.t.fits (readM c.l c.s m).n) = (readM c.l c.s m).s.data.take (readM c.l c.s m).s.pos
        rw [b2]
        refine hpre.1.trans ?_
        congr 1
        omega
      · show c.tot + c.t.fits (readM c.l c.s m).n = (readM c.l c.s m).s.pos
        omega
  · show c.t.has ++ (c.got m).take (c.t.fits (readM c.l c.s m).n) = c.s.data.take (c.t.has ++ (c.got m).take (c.t.fits (readM c.l c.s m).n)).length
    have h2 : (c.t.has ++ (c.got m).take (c.t.fits (readM c.l c.s m).n)).length = c.s.pos + c.t.fits (readM c.l c.s m).n := hpre.2
    rw [h2]; exact hpre.1
  · show c.tot + c.t.fits (readM c.l c.s m).n = (c.t.has ++ (c.got m).take (c.t.fits (readM c.l c.s m).n)).length
    have h2 : (c.t.has ++ (c.got m).take (c.t.fits (readM c.l c.s m).n)).length = c.s.pos + c.t.fits (readM c.l c.s m).n := hpre.2
    rw [h2]; omega
  · show (c.t.has ++ (c.got m).take (c.t.fits (readM c.l c.s m).n)).length ≤ _
    have h2 : (c.t.has ++ (c.got m).take (c.t.fits (readM c.l c.s m).n)).length = c.s.pos + c.t.fits (readM c.l c.s m).n := hpre.2
    rw [h2]; omega
end
theorem runM_done {p : Nat} {round : Cp → Cp × Option Int} (hr : ∀ c, CpOk p c → Even c → ((round c).2 = none → Even (round c).1) ∧ (∀ e, (round c).2 = some e → Done c.s.data c.t.over (round c).1) ∧ (round c).1.s.data = c.s.data ∧ (round c).1.t.over = c.t.over)
    (ho : ∀ c, CpOk p c → (round c).2 = none → CpOk p (round c).1 ∧ (round c).1.s.rem p < c.s.rem p) : ∀ (f : Nat) (c : Cp), CpOk p c → Even c → c.s.rem p < f → Done c.s.data c.t.over (runM round f c).1 ∧ (runM round f c).1.s.data = c.s.data
  | 0, c, _, _, h => by omega
  | f + 1, c, h, g, hf => by
    obtain ⟨h1, h2, h3, h4⟩ := hr c h g
    cases he : (round c).2 with
    | some e => rw [runM_stop he]; exact ⟨h2 e he, h3⟩
    | none =>
      rw [runM_more he]
      obtain ⟨k1, k2⟩ := ho c h he
      have ih := runM_done hr ho f _ k1 (h1 he) (by omega)
      rw [h3, h4] at ih
      exact ih
/-- a copying from the start on -/
theorem copyM_done {p : Nat} {sh : Sh} {sk : Sk} {bulk m F : Nat} {c : Cp} (h : CpOk p c) (g : Even c) (hp0 : c.s.pos = 0) (hm : 1 ≤ m) (hb : sk.rd = true → 1 ≤ bulk) (hF : c.s.rem p < F) :
    Done c.s.data c.t.over (copyM sh sk bulk m F c).1 ∧ (copyM sh sk bulk m F c).1.s.data = c.s.data := by
  unfold copyM
  by_cases h1 : fastB sh.wr c.l = true
  · rw [if_pos h1]
    have hh0 : c.t.has = [] := by rw [g.has, hp0]; rfl
    by_cases hl : c.s.left = 0
    · have e1 : writesC c = c := by unfold writesC; rw [if_pos hl]
      have e2 : wrote c = 0 := by unfold wrote; rw [if_pos hl]
      rw [e1, e2]
      refine ⟨⟨?_, .inr ?_, ?_⟩, rfl⟩
      · show c.t.has = c.s.data.take c.t.has.length
        rw [hh0]; rfl
      · show 0 = c.t.has.length
        rw [hh0]; rfl
      · show c.t.has.length ≤ _
        rw [hh0]; simp
    · have e1 : (writesC c).t = c.t.put (c.s.data.drop c.s.pos) ∧ (writesC c).s = c.s.skip (wrote c) := by unfold writesC; rw [if_neg hl]; exact ⟨rfl, rfl⟩
      have e2 : wrote c = min (c.t.said c.s.left) c.s.left := by unfold wrote; rw [if_neg hl]
      have hdl : (c.s.data.drop c.s.pos).length = c.s.left := by rw [List.length_drop]; rfl
      have ht := took_le c.t c.s.left
      have hl2 : c.s.left = c.s.data.length := by unfold Sc.left; omega
      have hhas : (c.t.put (c.s.data.drop c.s.pos)).has = c.s.data.take (c.t.took c.s.left) := by
        unfold Tank.put
        dsimp only
        rw [hdl, hh0, hp0]; rfl
      have hlen : (c.t.put (c.s.data.drop c.s.pos)).has.length = c.t.took c.s.left := by rw [hhas, List.length_take]; omega
      rw [e1.1, e1.2]
      refine ⟨⟨?_, ?_, ?_⟩, rfl⟩
      · show (c.t.put (c.s.data.drop c.s.pos)).has = c.s.data.take (c.t.put (c.s.data.drop c.s.pos)).has.length
        rw [hlen]; exact hhas
      · rcases said_cases c.t c.s.left with hs | hs
        · right
          show wrote c = (c.t.put (c.s.data.drop c.s.pos)).has.length
          rw [hlen, e2, hs]; omega
        · exact .inl hs.1
      · show (c.t.put (c.s.data.drop c.s.pos)).has.length ≤ _
        rw [hlen]; omega
  · rw [if_neg h1]
    by_cases h2 : fastK sk.rd c.k = true
    · rw [if_pos h2]
      have hb' := hb (by unfold fastK at h2; simp at h2; exact h2.1)
      obtain ⟨k1, k2⟩ := runM_done (fun c hc hg => readRound_even (m := bulk) hc hg) (fun c hc he => readRound_ok hc hb' he) F c h g hF
      exact ⟨⟨k1.has, k1.tot, k1.le⟩, k2⟩
    · rw [if_neg h2]
      exact runM_done (fun c hc hg => bufRound_even (m := m) hc hg) (fun c hc he => bufRound_ok hc hm he) F c h g hF
end Go.Proofs.YtigfgdefgnahpaaDoor
