/-
  Nothing is lost: what the sink has is a beginning of what there was. No program in sight. Not a statement of the seat.
-/
import Derived.Test.YtigfgdefgnahpaaDoorCopyPure
import Derived.Test.YtigfgdefgnahpaaDoorCopies
namespace Go.Proofs.YtigfgdefgnahpaaDoor

/-- while it goes on: all that was read is there -/
structure Even (c : Cp) : Prop where
  has : c.t.has = c.s.data.take c.s.pos
  tot : c.tot = c.s.pos
/-- at the end -/
structure Done (d : Bytes) (over : Bool) (c : Cp) : Prop where
  has : c.t.has = d.take c.t.has.length
  tot : over = true ∨ c.tot = c.t.has.length
  le : c.t.has.length ≤ d.length

theorem take_next (d : Bytes) (a b : Nat) : d.take a ++ (d.drop a).take b = d.take (a + b) := by rw [List.take_add]
theorem pre_of {d : Bytes} {a b : Nat} {h : Bytes} (hh : h = d.take a) (hb : a + b ≤ d.length) (n : Nat) (hn : n ≤ b) : (h ++ ((d.drop a).take b).take n) = d.take (a + n) ∧ (h ++ ((d.drop a).take b).take n).length = a + n := by
  have e : h ++ ((d.drop a).take b).take n = d.take (a + n) := by rw [hh, List.take_take, Nat.min_eq_left hn, take_next]
  refine ⟨e, ?_⟩
  rw [e, List.length_take]; omega

theorem Even.len {p : Nat} {c : Cp} (h : CpOk p c) (g : Even c) : c.t.has.length = c.s.pos := by
  rw [g.has, List.length_take]
  have := h.s.2.2.1
  omega
theorem said_cases (t : Tank) (n : Nat) : t.said n = t.took n ∨ (t.over = true ∧ t.full n = false ∧ t.said n = n + 1) := by
  unfold Tank.said
  cases hf : t.full n
  · cases ho : t.over
    · left; simp
    · right; simp
  · left; simp
section
variable {p m : Nat} {c : Cp}
theorem got_bounds (h : CpOk p c) : c.s.pos + (readM c.l c.s m).n ≤ c.s.data.length ∧ (readM c.l c.s m).s.data = c.s.data := by
  have g := readM_good c.l c.s m h.s h.l
  have h1 := g.ok.2.2.1
  have h2 := g.bytes
  have h3 := g.pos
  rw [g.data] at h1
  exact ⟨by omega, g.data⟩
theorem bufRound_even (h : CpOk p c) (g : Even c) : ((bufRound m c).2 = none → Even (bufRound m c).1) ∧ (∀ e, (bufRound m c).2 = some e → Done c.s.data c.t.over (bufRound m c).1) ∧ (bufRound m c).1.s.data = c.s.data ∧ (bufRound m c).1.t.over = c.t.over := by
  have gr := readM_good c.l c.s m h.s h.l
  obtain ⟨b1, b2⟩ := got_bounds (m := m) h
  have hlen := g.len h
  have hgl := got_length h m
  have hput : ∀ n, n = (readM c.l c.s m).n → (c.t.put (c.got m)).has = c.s.data.take (c.s.pos + c.t.took n) ∧ (c.t.put (c.got m)).has.length = c.s.pos + c.t.took n := by
    intro n hn
    have ht := took_le c.t n
    have := pre_of g.has b1 (c.t.took n) (by omega)
    unfold Tank.put
    rw [hgl, ← hn]
    exact this
  unfold bufRound
  dsimp only
  by_cases h0 : (readM c.l c.s m).n = 0
  · rw [if_pos h0]
    refine ⟨fun hn => ?_, fun e _ => ⟨?_, .inr ?_, ?_⟩, b2, rfl⟩
    · have he := tailE_none hn
      have hf := gr.full he
      have hp := gr.pos
      refine ⟨?_, ?_⟩
      · show c.t.has = (readM c.l c.s m).s.data.take (readM c.l c.s m).s.pos
        rw [b2, g.has]
        congr 1
        omega
      · show c.tot = (readM c.l c.s m).s.pos
        have := g.tot
        omega
    · show c.t.has = c.s.data.take c.t.has.length
      rw [hlen]; exact g.has
    · show c.tot = c.t.has.length
      rw [hlen]; exact g.tot
    · show c.t.has.length ≤ _
      omega
  · rw [if_neg h0]
    obtain ⟨p1, p2⟩ := hput _ rfl
    have ht := took_le c.t (readM c.l c.s m).n
    have hsd := said_cases c.t (readM c.l c.s m).n
    have hdone : ∀ q, (c.t.over = true ∨ q = c.s.pos + c.t.took (readM c.l c.s m).n) → Done c.s.data c.t.over { ((c.read m).put (c.got m)) with tot := q } := by
      intro q hq
      refine ⟨?_, ?_, ?_⟩
      · show (c.t.put (c.got m)).has = c.s.data.take (c.t.put (c.got m)).has.length
        rw [p2]; exact p1
      · rcases hq with hq | hq
        · exact .inl hq
        · right
          show q = (c.t.put (c.got m)).has.length
          rw [p2]; exact hq
      · show (c.t.put (c.got m)).has.length ≤ _
        rw [p2]; omega
    have htot := g.tot
    by_cases h1 : (readM c.l c.s m).n < c.t.said (readM c.l c.s m).n
    · rw [if_pos h1]
      refine ⟨(fun hn => by cases hn), fun e _ => ?_, b2, rfl⟩
      refine hdone c.tot (.inl ?_)
      rcases hsd with hs | hs
      · omega
      · exact hs.1
    · rw [if_neg h1]
      have hs : c.t.said (readM c.l c.s m).n = c.t.took (readM c.l c.s m).n := by
        rcases hsd with hs | hs
        · exact hs
        · omega
      have hd2 := hdone (c.tot + c.t.said (readM c.l c.s m).n) (.inr (by omega))
      by_cases h2 : c.t.full (readM c.l c.s m).n = true
      · rw [if_pos h2]
        exact ⟨(fun hn => by cases hn), fun e _ => hd2, b2, rfl⟩
      · rw [if_neg h2]
        by_cases h3 : c.t.said (readM c.l c.s m).n < (readM c.l c.s m).n
        · rw [if_pos h3]
          exact ⟨(fun hn => by cases hn), fun e _ => hd2, b2, rfl⟩
        · rw [if_neg h3]
          refine ⟨fun hn => ?_, fun e _ => hd2, b2, rfl⟩
          have he := tailE_none hn
          have hf := gr.full he
          have hp := gr.pos
          refine ⟨?_, ?_⟩
          · show (c.t.put (c.got m)).has = (readM c.l c.s m).s.data.take (readM c.l c.s m).s.pos
            rw [b2, p1]
            congr 1
            omega
          · show c.tot + c.t.said (readM c.l c.s m).n = (readM c.l c.s m).s.pos
            omega
theorem readRound_even (h : CpOk p c) (g : Even c) : ((readRound m c).2 = none → Even (readRound m c).1) ∧ (∀ e, (readRound m c).2 = some e → Done c.s.data c.t.over (readRound m c).1) ∧ (readRound m c).1.s.data = c.s.data ∧ (readRound m c).1.t.over = c.t.over := by
  have gr := readM_good c.l c.s m h.s h.l
  obtain ⟨b1, b2⟩ := got_bounds (m := m) h
  have hfl := fits_le c.t h.t (readM c.l c.s m).n
  have hpre := pre_of g.has b1 (c.t.fits (readM c.l c.s m).n) hfl
  have htot := g.tot
  refine ⟨fun hn => ?_, fun e _ => ⟨?_, .inr ?_, ?_⟩, b2, rfl⟩
  · unfold readRound at hn
    dsimp only at hn
    by_cases h1 : c.t.tight (readM c.l c.s m).n = true
    · rw [if_pos h1] at hn; cases hn
    · rw [if_neg h1] at hn
      have hf : c.t.fits (readM c.l c.s m).n = (readM c.l c.s m).n := by unfold Tank.fits; rw [if_neg h1]
      have he := tailE_none hn
      have hfu := gr.full he
      have hp := gr.pos
      refine ⟨?_, ?_⟩
      · show c.t.has ++ (c.got m).take (c.t.fits (readM c.l c.s m).n) = (readM c.l c.s m).s.data.take (readM c.l c.s m).s.pos
        rw [b2]
        refine hpre.1.trans ?_
        congr 1
        omega
      · show c.tot + c.t.fits (readM c.l c.s m).n = (readM c.l c.s m).s.pos
        omega
  · show c.t.has ++ (c.got m).take (c.t.fits (readM c.l c.s m).n) = c.s.data.take (c.t.has ++ (c.got m).take (c.t.fits (readM c.l c.s m).n)).length
    have h2 : (c.t.has ++ (c.got m).take (c.t.fits (readM c.l c.s m).n)).length = c.s.pos + c.t.fits (readM c.l c.s m).n := hpre.2
    rw [h2]; exact hpre.1
  · show c.tot + c.t.fits (readM c.l c.s m).n = (c.t.has ++ (c.got m).take (c.t.fits (readM c.l c.s m).n)).length
    have h2 : (c.t.has ++ (c.got m).take (c.t.fits (readM c.l c.s m).n)).length = c.s.pos + c.t.fits (readM c.l c.s m).n := hpre.2
    rw [h2]; omega
  · show (c.t.has ++ (c.got m).take (c.t.fits (readM c.l c.s m).n)).length ≤ _
    have h2 : (c.t.has ++ (c.got m).take (c.t.fits (readM c.l c.s m).n)).length = c.s.pos + c.t.fits (readM c.l c.s m).n := hpre.2
    rw [h2]; omega
end
theorem runM_done {p : Nat} {round : Cp → Cp × Option Int} (hr : ∀ c, CpOk p c → Even c → ((round c).2 = none → Even (round c).1) ∧ (∀ e, (round c).2 = some e → Done c.s.data c.t.over (round c).1) ∧ (round c).1.s.data = c.s.data ∧ (round c).1.t.over = c.t.over)
    (ho : ∀ c, CpOk p c → (round c).2 = none → CpOk p (round c).1 ∧ (round c).1.s.rem p < c.s.rem p) : ∀ (f : Nat) (c : Cp), CpOk p c → Even c → c.s.rem p < f → Done c.s.data c.t.over (runM round f c).1 ∧ (runM round f c).1.s.data = c.s.data
  | 0, c, _, _, h => by omega
  | f + 1, c, h, g, hf => by
    obtain ⟨h1, h2, h3, h4⟩ := hr c h g
    cases he : (round c).2 with
    | some e => rw [runM_stop he]; exact ⟨h2 e he, h3⟩
    | none =>
      rw [runM_more he]
      obtain ⟨k1, k2⟩ := ho c h he
      have ih := runM_done hr ho f _ k1 (h1 he) (by omega)
      rw [h3, h4] at ih
      exact ih
/-- a copying from the start on -/
theorem copyM_done {p : Nat} {sh : Sh} {sk : Sk} {bulk m F : Nat} {c : Cp} (h : CpOk p c) (g : Even c) (hp0 : c.s.pos = 0) (hm : 1 ≤ m) (hb : sk.rd = true → 1 ≤ bulk) (hF : c.s.rem p < F) :
    Done c.s.data c.t.over (copyM sh sk bulk m F c).1 ∧ (copyM sh sk bulk m F c).1.s.data = c.s.data := by
  unfold copyM
  by_cases h1 : fastB sh.wr c.l = true
  · rw [if_pos h1]
    have hh0 : c.t.has = [] := by rw [g.has, hp0]; rfl
    by_cases hl : c.s.left = 0
    · have e1 : writesC c = c := by unfold writesC; rw [if_pos hl]
      have e2 : wrote c = 0 := by unfold wrote; rw [if_pos hl]
      rw [e1, e2]
      refine ⟨⟨?_, .inr ?_, ?_⟩, rfl⟩
      · show c.t.has = c.s.data.take c.t.has.length
        rw [hh0]; rfl
      · show 0 = c.t.has.length
        rw [hh0]; rfl
      · show c.t.has.length ≤ _
        rw [hh0]; simp
    · have e1 : (writesC c).t = c.t.put (c.s.data.drop c.s.pos) ∧ (writesC c).s = c.s.skip (wrote c) := by unfold writesC; rw [if_neg hl]; exact ⟨rfl, rfl⟩
      have e2 : wrote c = min (c.t.said c.s.left) c.s.left := by unfold wrote; rw [if_neg hl]
      have hdl : (c.s.data.drop c.s.pos).length = c.s.left := by rw [List.length_drop]; rfl
      have ht := took_le c.t c.s.left
      have hl2 : c.s.left = c.s.data.length := by unfold Sc.left; omega
      have hhas : (c.t.put (c.s.data.drop c.s.pos)).has = c.s.data.take (c.t.took c.s.left) := by
        unfold Tank.put
        dsimp only
        rw [hdl, hh0, hp0]; rfl
      have hlen : (c.t.put (c.s.data.drop c.s.pos)).has.length = c.t.took c.s.left := by rw [hhas, List.length_take]; omega
      rw [e1.1, e1.2]
      refine ⟨⟨?_, ?_, ?_⟩, rfl⟩
      · show (c.t.put (c.s.data.drop c.s.pos)).has = c.s.data.take (c.t.put (c.s.data.drop c.s.pos)).has.length
        rw [hlen]; exact hhas
      · rcases said_cases c.t c.s.left with hs | hs
        · right
          show wrote c = (c.t.put (c.s.data.drop c.s.pos)).has.length
          rw [hlen, e2, hs]; omega
        · exact .inl hs.1
      · show (c.t.put (c.s.data.drop c.s.pos)).has.length ≤ _
        rw [hlen]; omega
  · rw [if_neg h1]
    by_cases h2 : fastK sk.rd c.k = true
    · rw [if_pos h2]
      have hb' := hb (by unfold fastK at h2; simp at h2; exact h2.1)
      obtain ⟨k1, k2⟩ := runM_done (fun c hc hg => readRound_even (m := bulk) hc hg) (fun c hc he => readRound_ok hc hb' he) F c h g hF
      exact ⟨⟨k1.has, k1.tot, k1.le⟩, k2⟩
    · rw [if_neg h2]
      exact runM_done (fun c hc hg => bufRound_even (m := m) hc hg) (fun c hc he => bufRound_ok hc hm he) F c h g hF
end Go.Proofs.YtigfgdefgnahpaaDoor

/-
  By each way all comes through; a count more changes nothing but what is counted. No program in sight. Not a statement of the seat.
-/
namespace Go.Proofs.YtigfgdefgnahpaaDoor

/-- a source that gives all, a sink that takes all -/
structure PlainC (c : Cp) : Prop where
  ops : ∀ x ∈ c.l, x.op ≠ 3 ∧ x.op ≠ 4
  nb : c.s.broken = false
  zs : c.t.sizes.length = 0
  room : c.t.room < 0
  over : c.t.over = false

section
variable {t : Tank}
theorem took_plain (h : t.sizes.length = 0) (h2 : t.room < 0) (n : Nat) : t.took n = n := by
  unfold Tank.took cutM
  rw [if_neg (by omega), if_pos h]
theorem full_plain (h2 : t.room < 0) (n : Nat) : t.full n = false := by
  unfold Tank.full
  simp only [decide_eq_false_iff_not]
  omega
theorem tight_plain (h2 : t.room < 0) (n : Nat) : t.tight n = false := by
  unfold Tank.tight
  simp only [decide_eq_false_iff_not]
  omega
theorem said_plain (h : t.sizes.length = 0) (h2 : t.room < 0) (h3 : t.over = false) (n : Nat) : t.said n = n := by
  unfold Tank.said
  rw [full_plain h2, h3, took_plain h h2]
  rfl
end
theorem readM_plain : ∀ (l : List Wr) (s : Sc) (m : Nat), (∀ x ∈ l, x.op ≠ 3 ∧ x.op ≠ 4) → (readM l s m).n = s.gives m ∧ (readM l s m).e = s.err m ∧ (readM l s m).s = s.next m
  | [], _, _, _ => ⟨rfl, rfl, rfl⟩
  | x :: r, s, m, h => by
    obtain ⟨h3, h4⟩ := h x (by simp)
    have ih := readM_plain r s m (fun y hy => h y (by simp [hy]))
    rw [readM, if_neg h3]
    by_cases h2 : x.op = 2
    · rw [if_pos h2]; exact ih
    · rw [if_neg h2, if_neg h4]; exact ih
theorem ops_of {P : Int → Prop} : ∀ {l l' : List Wr}, l'.map Wr.op = l.map Wr.op → (∀ x ∈ l, P x.op) → ∀ x ∈ l', P x.op := by
  intro l l' h hp x hx
  have h1 : x.op ∈ l.map Wr.op := by rw [← h]; exact List.mem_map.2 ⟨x, hx, rfl⟩
  obtain ⟨y, hy, e⟩ := List.mem_map.1 h1
  rw [← e]; exact hp y hy
theorem tail_plain {s : Sc} {m : Nat} (hb : s.broken = false) {e : Int} (h : tailE (s.err m) = some e) : e = 0 ∧ (s.next m).left = 0 := by
  unfold tailE at h
  have hf : s.fin = -1 := by unfold Sc.fin; rw [hb]; rfl
  have hl : (s.next m).left = s.left - s.gives m := by unfold Sc.left Sc.next; dsimp only; omega
  have he : s.err m = -1 ∧ (s.next m).left = 0 ∨ s.err m = 0 := by
    unfold Sc.err
    rw [hf, hl]
    split
    · left; omega
    · split
      · left; omega
      · right; rfl
  rcases he with ⟨h1, h2⟩ | h1
  · rw [h1] at h
    simp at h
    exact ⟨h.symm, h2⟩
  · rw [h1] at h
    simp at h
section
variable {p m : Nat} {c : Cp}
theorem bufRound_plain (h : CpOk p c) (g : Even c) (q : PlainC c) : Even (bufRound m c).1 ∧ PlainC (bufRound m c).1 ∧ (bufRound m c).1.s.pos ≤ c.s.data.length ∧ ∀ e, (bufRound m c).2 = some e → e = 0 ∧ (bufRound m c).1.s.left = 0 := by
  have gr := readM_good c.l c.s m h.s h.l
  obtain ⟨b1, b2⟩ := got_bounds (m := m) h
  obtain ⟨r1, r2, r3⟩ := readM_plain c.l c.s m q.ops
  have hgl := got_length h m
  have hpos : (readM c.l c.s m).s.pos = c.s.pos + (readM c.l c.s m).n := by rw [r3, r1]; rfl
  have hops : ∀ x ∈ (readM c.l c.s m).l, x.op ≠ 3 ∧ x.op ≠ 4 := ops_of (P := fun o => o ≠ 3 ∧ o ≠ 4) gr.ops q.ops
  have htl : ∀ e, tailE (readM c.l c.s m).e = some e → e = 0 ∧ (readM c.l c.s m).s.left = 0 := by
    intro e he
    rw [r2] at he
    rw [r3]
    exact tail_plain q.nb he
  unfold bufRound
  dsimp only
  by_cases h0 : (readM c.l c.s m).n = 0
  · rw [if_pos h0]
    refine ⟨⟨?_, ?_⟩, ⟨hops, gr.broken.trans q.nb, q.zs, q.room, q.over⟩, ?_, htl⟩
    · show c.t.has = (readM c.l c.s m).s.data.take (readM c.l c.s m).s.pos
      rw [b2, g.has, hpos, h0]; rfl
    · show c.tot = (readM c.l c.s m).s.pos
      rw [hpos, h0]; exact g.tot
    · show (readM c.l c.s m).s.pos ≤ _
      omega
  · rw [if_neg h0, said_plain q.zs q.room q.over, if_neg (by omega), full_plain q.room, if_neg (by simp), if_neg (by omega)]
    have hpre := pre_of g.has b1 (readM c.l c.s m).n (Nat.le_refl _)
    refine ⟨⟨?_, ?_⟩, ⟨hops, gr.broken.trans q.nb, q.zs, q.room, q.over⟩, ?_, htl⟩
    · show (c.t.put (c.got m)).has = (readM c.l c.s m).s.data.take (readM c.l c.s m).s.pos
      unfold Tank.put
      rw [hgl, took_plain q.zs q.room, b2, hpos]
      exact hpre.1
    · show c.tot + (readM c.l c.s m).n = (readM c.l c.s m).s.pos
      rw [hpos, g.tot]
    · show (readM c.l c.s m).s.pos ≤ _
      omega
theorem readRound_plain (h : CpOk p c) (g : Even c) (q : PlainC c) : Even (readRound m c).1 ∧ PlainC (readRound m c).1 ∧ (readRound m c).1.s.pos ≤ c.s.data.length ∧ ∀ e, (readRound m c).2 = some e → e = 0 ∧ (readRound m c).1.s.left = 0 := by
  have gr := readM_good c.l c.s m h.s h.l
  obtain ⟨b1, b2⟩ := got_bounds (m := m) h
  obtain ⟨r1, r2, r3⟩ := readM_plain c.l c.s m q.ops
  have hpos : (readM c.l c.s m).s.pos = c.s.pos + (readM c.l c.s m).n := by rw [r3, r1]; rfl
  have hops : ∀ x ∈ (readM c.l c.s m).l, x.op ≠ 3 ∧ x.op ≠ 4 := ops_of (P := fun o => o ≠ 3 ∧ o ≠ 4) gr.ops q.ops
  have hfit : c.t.fits (readM c.l c.s m).n = (readM c.l c.s m).n := by unfold Tank.fits; rw [tight_plain q.room]; rfl
  have hpre := pre_of g.has b1 (readM c.l c.s m).n (Nat.le_refl _)
  unfold readRound
  dsimp only
  rw [tight_plain q.room, hfit, if_neg (by simp)]
  refine ⟨⟨?_, ?_⟩, ⟨hops, gr.broken.trans q.nb, q.zs, q.room, q.over⟩, ?_, ?_⟩
  · show c.t.has ++ (c.got m).take (readM c.l c.s m).n = (readM c.l c.s m).s.data.take (readM c.l c.s m).s.pos
    rw [b2, hpos]; exact hpre.1
  · show c.tot + (readM c.l c.s m).n = (readM c.l c.s m).s.pos
    rw [hpos, g.tot]
  · show (readM c.l c.s m).s.pos ≤ _
    omega
  · intro e he
    rw [r2] at he
    show e = 0 ∧ (readM c.l c.s m).s.left = 0
    rw [r3]
    exact tail_plain q.nb he
end
theorem runM_plain {p : Nat} {round : Cp → Cp × Option Int} (hr : ∀ c, CpOk p c → Even c → PlainC c → Even (round c).1 ∧ PlainC (round c).1 ∧ (round c).1.s.pos ≤ c.s.data.length ∧ ∀ e, (round c).2 = some e → e = 0 ∧ (round c).1.s.left = 0)
    (hd : ∀ c, CpOk p c → Even c → (round c).1.s.data = c.s.data)
    (ho : ∀ c, CpOk p c → (round c).2 = none → CpOk p (round c).1 ∧ (round c).1.s.rem p < c.s.rem p) : ∀ (f : Nat) (c : Cp), CpOk p c → Even c → PlainC c → c.s.rem p < f → Even (runM round f c).1 ∧ (runM round f c).1.s.pos = c.s.data.length ∧ (runM round f c).1.s.data = c.s.data ∧ (runM round f c).2 = 0
  | 0, c, _, _, _, h => by omega
  | f + 1, c, h, g, q, hf => by
    obtain ⟨h1, h2, h3, h4⟩ := hr c h g q
    have h5 := hd c h g
    cases he : (round c).2 with
    | some e =>
      rw [runM_stop he]
      obtain ⟨k1, k2⟩ := h4 e he
      refine ⟨h1, ?_, h5, k1⟩
      unfold Sc.left at k2
      rw [h5] at k2
      show (round c).1.s.pos = _
      omega
    | none =>
      rw [runM_more he]
      obtain ⟨k1, k2⟩ := ho c h he
      obtain ⟨i1, i2, i3, i4⟩ := runM_plain hr hd ho f _ k1 h1 h2 (by omega)
      exact ⟨i1, i2.trans (by rw [h5]), i3.trans h5, i4⟩
/-- a copying from the start on, of all -/
theorem copyM_plain {p : Nat} {sh : Sh} {sk : Sk} {bulk m F : Nat} {c : Cp} (h : CpOk p c) (g : Even c) (q : PlainC c) (hp0 : c.s.pos = 0) (hm : 1 ≤ m) (hb : sk.rd = true → 1 ≤ bulk) (hF : c.s.rem p < F) :
    (copyM sh sk bulk m F c).1.t.has = c.s.data ∧ (copyM sh sk bulk m F c).1.tot = c.s.data.length ∧ (copyM sh sk bulk m F c).2.1 = 0 ∧ (copyM sh sk bulk m F c).1.s.left = 0 := by
  have fin : ∀ R : Cp, Even R → R.s.pos = c.s.data.length → R.s.data = c.s.data → R.t.has = c.s.data ∧ R.tot = c.s.data.length ∧ R.s.left = 0 := by
    intro R h1 h2 h3
    refine ⟨?_, ?_, ?_⟩
    · rw [h1.has, h3, h2]; simp
    · rw [h1.tot, h2]
    · unfold Sc.left; rw [h3, h2]; omega
  unfold copyM
  by_cases h1 : fastB sh.wr c.l = true
  · rw [if_pos h1]
    have hh0 : c.t.has = [] := by rw [g.has, hp0]; rfl
    by_cases hl : c.s.left = 0
    · have e1 : writesC c = c := by unfold writesC; rw [if_pos hl]
      have e2 : wrote c = 0 := by unfold wrote; rw [if_pos hl]
      have e3 : c.s.data.length = 0 := by unfold Sc.left at hl; omega
      have e4 : c.s.data = [] := List.eq_nil_of_length_eq_zero e3
      rw [e1, e2]
      refine ⟨?_, ?_, ?_, hl⟩
      · show c.t.has = _
        rw [hh0, e4]
      · show 0 = _
        omega
      · show writesE c = 0
        unfold writesE
        rw [if_pos hl, q.nb]; rfl
    · have hs := said_plain q.zs q.room q.over c.s.left
      have e1 : (writesC c).t = c.t.put (c.s.data.drop c.s.pos) ∧ (writesC c).s = c.s.skip (wrote c) := by unfold writesC; rw [if_neg hl]; exact ⟨rfl, rfl⟩
      have e2 : wrote c = c.s.left := by unfold wrote; rw [if_neg hl, hs]; omega
      have hdl : (c.s.data.drop c.s.pos).length = c.s.left := by rw [List.length_drop]; rfl
      have hl2 : c.s.left = c.s.data.length := by unfold Sc.left; omega
      rw [e1.1, e1.2]
      refine ⟨?_, ?_, ?_, ?_⟩
      · show (c.t.put (c.s.data.drop c.s.pos)).has = _
        unfold Tank.put
        dsimp only
        rw [hdl, took_plain q.zs q.room, hh0, hp0, hl2]; simp
      · show wrote c = _
        rw [e2, hl2]
      · show writesE c = 0
        unfold writesE
        rw [if_neg hl, hs, if_neg (by omega), full_plain q.room, if_neg (by simp), if_neg (by omega), q.nb]; rfl
      · show (c.s.skip (wrote c)).left = 0
        unfold Sc.left Sc.skip at *
        dsimp only
        omega
  · rw [if_neg h1]
    by_cases h2 : fastK sk.rd c.k = true
    · rw [if_pos h2]
      have hb' := hb (by unfold fastK at h2; simp at h2; exact h2.1)
      obtain ⟨k1, k2, k3, k4⟩ := runM_plain (fun c hc hg hq => readRound_plain (m := bulk) hc hg hq) (fun c hc hg => (readRound_even (m := bulk) hc hg).2.2.1) (fun c hc he => readRound_ok hc hb' he) F c h g q hF
      obtain ⟨f1, f2, f3⟩ := fin _ k1 k2 k3
      exact ⟨f1, f2, k4, f3⟩
    · rw [if_neg h2]
      obtain ⟨k1, k2, k3, k4⟩ := runM_plain (fun c hc hg hq => bufRound_plain (m := m) hc hg hq) (fun c hc hg => (bufRound_even (m := m) hc hg).2.2.1) (fun c hc he => bufRound_ok hc hm he) F c h g q hF
      obtain ⟨f1, f2, f3⟩ := fin _ k1 k2 k3
      exact ⟨f1, f2, k4, f3⟩

/- a count more -/
structure More (c d : Cp) : Prop where
  l : ∃ x : Wr, x.op = 2 ∧ d.l = x :: c.l
  s : d.s = c.s
  k : ∃ x : KW, x.1 = true ∧ d.k = x :: c.k
  t : d.t = c.t
  tot : d.tot = c.tot
theorem readM_count {x : Wr} {l : List Wr} {s : Sc} {m : Nat} (h : x.op = 2) : readM (x :: l) s m = { readM l s m with l := countUp x (readM l s m).n :: (readM l s m).l } := by
  rw [readM, if_neg (by omega), if_pos h]
theorem bufRound_more {m : Nat} {c d : Cp} (h : More c d) : More (bufRound m c).1 (bufRound m d).1 ∧ (bufRound m d).2 = (bufRound m c).2 := by
  obtain ⟨⟨x, hx, hl⟩, hs, ⟨y, hy, hk⟩, ht, htot⟩ := h
  have hr : readM d.l d.s m = { readM c.l c.s m with l := countUp x (readM c.l c.s m).n :: (readM c.l c.s m).l } := by rw [hl, hs, readM_count hx]
  have hg : d.got m = c.got m := by unfold Cp.got; rw [hr, hs]
  have m1 : More (c.read m) (d.read m) := by
    unfold Cp.read
    rw [hr]
    exact ⟨⟨countUp x (readM c.l c.s m).n, hx, rfl⟩, rfl, ⟨y, hy, hk⟩, ht, htot⟩
  have m2 : More ((c.read m).put (c.got m)) ((d.read m).put (d.got m)) := by
    rw [hg]
    unfold Cp.put
    refine ⟨m1.l, m1.s, ⟨addK (c.t.said (c.got m).length) y, hy, ?_⟩, ?_, m1.tot⟩
    · show d.k.map (addK (d.t.said _)) = _
      rw [hk, ht]; rfl
    · show d.t.put _ = _
      rw [ht]; rfl
  have m3 : ∀ n, More (((c.read m).put (c.got m)).plus n) (((d.read m).put (d.got m)).plus n) := fun n => ⟨m2.l, m2.s, m2.k, m2.t, by show d.tot + n = c.tot + n; rw [htot]⟩
  unfold bufRound
  rw [hr]
  dsimp only
  rw [ht]
  by_cases h0 : (readM c.l c.s m).n = 0
  · rw [if_pos h0, if_pos h0]; exact ⟨m1, rfl⟩
  · rw [if_neg h0, if_neg h0]
    by_cases h1 : (readM c.l c.s m).n < c.t.said (readM c.l c.s m).n
    · rw [if_pos h1, if_pos h1]; exact ⟨m2, rfl⟩
    · rw [if_neg h1, if_neg h1]
      by_cases h2 : c.t.full (readM c.l c.s m).n = true
      · rw [if_pos h2, if_pos h2]; exact ⟨m3 _, rfl⟩
      · rw [if_neg h2, if_neg h2]
        by_cases h3 : c.t.said (readM c.l c.s m).n < (readM c.l c.s m).n
        · rw [if_pos h3, if_pos h3]; exact ⟨m3 _, rfl⟩
        · rw [if_neg h3, if_neg h3]; exact ⟨m3 _, rfl⟩
theorem readRound_more {m : Nat} {c d : Cp} (h : More c d) : More (readRound m c).1 (readRound m d).1 ∧ (readRound m d).2 = (readRound m c).2 := by
  obtain ⟨⟨x, hx, hl⟩, hs, ⟨y, hy, hk⟩, ht, htot⟩ := h
  have hr : readM d.l d.s m = { readM c.l c.s m with l := countUp x (readM c.l c.s m).n :: (readM c.l c.s m).l } := by rw [hl, hs, readM_count hx]
  have hg : d.got m = c.got m := by unfold Cp.got; rw [hr, hs]
  refine ⟨⟨⟨countUp x (readM c.l c.s m).n, hx, ?_⟩, ?_, ⟨y, hy, hk⟩, ?_, ?_⟩, ?_⟩
  · show (readM d.l d.s m).l = _
    rw [hr]; rfl
  · show (readM d.l d.s m).s = (readM c.l c.s m).s
    rw [hr]
  · show d.t.add ((d.got m).take (d.t.fits (readM d.l d.s m).n)) = c.t.add ((c.got m).take (c.t.fits (readM c.l c.s m).n))
    rw [hr, hg, ht]
  · show d.tot + d.t.fits (readM d.l d.s m).n = c.tot + c.t.fits (readM c.l c.s m).n
    rw [hr, ht, htot]
  · unfold readRound
    rw [hr, ht]
theorem runM_rel {round : Cp → Cp × Option Int} {Q : Cp → Cp → Prop} (hr : ∀ c d, Q c d → Q (round c).1 (round d).1 ∧ (round d).2 = (round c).2) : ∀ (f : Nat) (c d : Cp), Q c d → Q (runM round f c).1 (runM round f d).1 ∧ (runM round f d).2 = (runM round f c).2
  | 0, _, _, h => ⟨h, rfl⟩
  | f + 1, c, d, h => by
    obtain ⟨h1, h2⟩ := hr c d h
    cases he : (round c).2 with
    | some e => rw [runM_stop he, runM_stop (h2.trans he)]; exact ⟨h1, rfl⟩
    | none => rw [runM_more he, runM_more (h2.trans he)]; exact runM_rel hr f _ _ h1
theorem copyM_more {sh : Sh} {sk : Sk} {bulk m F : Nat} {c d : Cp} (h : More c d) : More (copyM sh sk bulk m F c).1 (copyM sh sk bulk m F d).1 ∧ (copyM sh sk bulk m F d).2 = (copyM sh sk bulk m F c).2 := by
  have h' := h
  obtain ⟨⟨x, hx, hl⟩, hs, ⟨y, hy, hk⟩, ht, htot⟩ := h
  have f1 : fastB sh.wr d.l = fastB sh.wr c.l := by unfold fastB; rw [hl, List.all_cons, hx]; simp
  have f2 : fastK sk.rd d.k = fastK sk.rd c.k := by unfold fastK; rw [hk, List.all_cons, hy]; simp
  have f3 : wrote d = wrote c := by unfold wrote; rw [hs, ht]
  unfold copyM
  rw [f1, f2]
  by_cases h1 : fastB sh.wr c.l = true
  · rw [if_pos h1, if_pos h1, f3]
    refine ⟨⟨⟨countUp x (wrote c), hx, ?_⟩, ?_, ?_, ?_, rfl⟩, ?_⟩
    · show countAll (wrote c) d.l = _
      rw [hl]; rfl
    · show (writesC d).s = (writesC c).s
      unfold writesC
      rw [hs, f3]
      split
      · exact hs
      · rfl
    · show ∃ x : KW, x.1 = true ∧ (writesC d).k = x :: (writesC c).k
      unfold writesC
      rw [hs]
      split
      · exact ⟨y, hy, hk⟩
      · refine ⟨addK (c.t.said c.s.left) y, hy, ?_⟩
        show d.k.map (addK (d.t.said _)) = _
        rw [hk, ht]; rfl
    · show (writesC d).t = (writesC c).t
      unfold writesC
      rw [hs]
      split
      · exact ht
      · show d.t.put _ = c.t.put _
        rw [ht]
    · show (writesE d, (1 : Int)) = (writesE c, 1)
      unfold writesE
      rw [hs, ht]
  · rw [if_neg h1, if_neg h1]
    by_cases h2 : fastK sk.rd c.k = true
    · rw [if_pos h2, if_pos h2]
      obtain ⟨k1, k2⟩ := runM_rel (round := readRound bulk) (Q := More) (fun c d h => readRound_more h) F c d h'
      obtain ⟨i1, i2, ⟨z, hz, i3⟩, i4, i5⟩ := k1
      refine ⟨⟨i1, i2, ⟨addK (runM (readRound bulk) F d).1.tot z, hz, ?_⟩, i4, i5⟩, ?_⟩
      · show List.map _ (runM (readRound bulk) F d).1.k = _ :: List.map _ _
        rw [i3, i5]; rfl
      · show ((runM (readRound bulk) F d).2, (2 : Int)) = _
        rw [k2]; rfl
    · rw [if_neg h2, if_neg h2]
      obtain ⟨k1, k2⟩ := runM_rel (round := bufRound m) (Q := More) (fun c d h => bufRound_more h) F c d h'
      exact ⟨k1, by show ((runM (bufRound m) F d).2, (0 : Int)) = _; rw [k2]⟩

/- hidden -/
theorem copyM_hidS {a b : Bool} {f : Nat → Nat} {sk : Sk} {bulk m F : Nat} {c : Cp} {x : Wr} {l : List Wr} (hl : c.l = x :: l) (hx : x.op ≠ 2) : copyM ⟨a, f⟩ sk bulk m F c = copyM ⟨b, f⟩ sk bulk m F c := by
  have e : ∀ q, fastB q c.l = false := by intro q; unfold fastB; rw [hl, List.all_cons]; simp [hx]
  unfold copyM
  dsimp only
  rw [e a, e b]
theorem copyM_hidK {sh : Sh} {a b : Bool} {f : Nat → Nat} {k1 k2 m F : Nat} {c : Cp} {x : KW} {l : List KW} (hl : c.k = x :: l) (hx : x.1 = false) : copyM sh ⟨a, f⟩ k1 m F c = copyM sh ⟨b, f⟩ k2 m F c := by
  have e : ∀ q, fastK q c.k = false := by intro q; unfold fastK; rw [hl, List.all_cons, hx]; simp
  unfold copyM
  dsimp only
  rw [e a, e b]
  rfl
end Go.Proofs.YtigfgdefgnahpaaDoor

/-
  So many bytes at most, behind a limit. No program in sight. Not a statement of the seat.
-/
namespace Go.Proofs.YtigfgdefgnahpaaDoor

/-- so much is still to come at most -/
def LimC (most : Int) (c : Cp) : Prop := ∃ x l, c.l = x :: l ∧ x.op = 3 ∧ 0 ≤ x.lim ∧ (c.tot : Int) + x.lim ≤ most
section
variable {p m : Nat} {c : Cp} {most : Int}
theorem read_lim (h : CpOk p c) (g : LimC most c) : ∃ x l, (readM c.l c.s m).l = x :: l ∧ x.op = 3 ∧ 0 ≤ x.lim ∧ (c.tot : Int) + (readM c.l c.s m).n + x.lim ≤ most := by
  obtain ⟨x, l, hl, h3, h0, ht⟩ := g
  have hok := h.l
  rw [hl] at hok
  have gr := fun k => readM_good l c.s k h.s (fun y hy => hok y (by simp [hy]))
  rw [hl, readM, if_pos h3]
  by_cases hle : x.lim ≤ 0
  · rw [if_pos hle]
    exact ⟨x, l, rfl, h3, h0, by show (c.tot : Int) + ((0 : Nat) : Int) + x.lim ≤ most; omega⟩
  · rw [if_neg hle]
    have h1 := (gr (if x.lim < m then x.lim.toNat else m)).le
    have h2 : ((if x.lim < m then x.lim.toNat else m : Nat) : Int) ≤ x.lim := by split <;> omega
    refine ⟨_, _, rfl, h3, ?_, ?_⟩
    · show 0 ≤ x.lim - ((readM l c.s _).n : Nat)
      omega
    · show (c.tot : Int) + ((readM l c.s (if x.lim < m then x.lim.toNat else m)).n : Nat) + (x.lim - ((readM l c.s (if x.lim < m then x.lim.toNat else m)).n : Nat)) ≤ most
      omega
theorem bufRound_lim (h : CpOk p c) (g : LimC most c) : LimC most (bufRound m c).1 := by
  obtain ⟨x, l, hl, h3, h0, ht⟩ := read_lim (m := m) h g
  have hz : ∀ q : Nat, (q : Int) ≤ c.tot + (readM c.l c.s m).n → LimC most { ((c.read m).put (c.got m)) with tot := q } := fun q hq => ⟨x, l, hl, h3, h0, by show (q : Int) + x.lim ≤ most; omega⟩
  unfold bufRound
  dsimp only
  by_cases c0 : (readM c.l c.s m).n = 0
  · rw [if_pos c0]
    exact ⟨x, l, hl, h3, h0, by show (c.tot : Int) + x.lim ≤ most; omega⟩
  · rw [if_neg c0]
    by_cases c1 : (readM c.l c.s m).n < c.t.said (readM c.l c.s m).n
    · rw [if_pos c1]; exact hz c.tot (by omega)
    · rw [if_neg c1]
      by_cases c2 : c.t.full (readM c.l c.s m).n = true
      · rw [if_pos c2]; exact hz (c.tot + c.t.said (readM c.l c.s m).n) (by omega)
      · rw [if_neg c2]
        by_cases c3 : c.t.said (readM c.l c.s m).n < (readM c.l c.s m).n
        · rw [if_pos c3]; exact hz (c.tot + c.t.said (readM c.l c.s m).n) (by omega)
        · rw [if_neg c3]; exact hz (c.tot + c.t.said (readM c.l c.s m).n) (by omega)
theorem readRound_lim (h : CpOk p c) (g : LimC most c) : LimC most (readRound m c).1 := by
  obtain ⟨x, l, hl, h3, h0, ht⟩ := read_lim (m := m) h g
  have hf := fits_le c.t h.t (readM c.l c.s m).n
  exact ⟨x, l, hl, h3, h0, by show ((c.tot + c.t.fits (readM c.l c.s m).n : Nat) : Int) + x.lim ≤ most; omega⟩
end
theorem runM_lim {p : Nat} {most : Int} {round : Cp → Cp × Option Int} (hr : ∀ c, CpOk p c → LimC most c → LimC most (round c).1)
    (ho : ∀ c, CpOk p c → (round c).2 = none → CpOk p (round c).1) : ∀ (f : Nat) (c : Cp), CpOk p c → LimC most c → LimC most (runM round f c).1
  | 0, _, _, g => g
  | f + 1, c, h, g => by
    have h1 := hr c h g
    cases he : (round c).2 with
    | some e => rw [runM_stop he]; exact h1
    | none => rw [runM_more he]; exact runM_lim hr ho f _ (ho c h he) h1
theorem LimC.le {most : Int} {c : Cp} (h : LimC most c) : (c.tot : Int) ≤ most := by
  obtain ⟨x, l, _, _, h0, ht⟩ := h
  omega
theorem copyM_lim {p : Nat} {most : Int} {sh : Sh} {sk : Sk} {bulk m F : Nat} {c : Cp} (h : CpOk p c) (g : LimC most c) (hm : 1 ≤ m) (hb : sk.rd = true → 1 ≤ bulk) : ((copyM sh sk bulk m F c).1.tot : Int) ≤ most := by
  obtain ⟨x, l, hl, h3, _⟩ := id g
  have hf : fastB sh.wr c.l = false := by unfold fastB; rw [hl, List.all_cons, h3]; simp
  unfold copyM
  rw [hf]
  by_cases h2 : fastK sk.rd c.k = true
  · rw [if_neg (by simp), if_pos h2]
    have hb' := hb (by unfold fastK at h2; simp at h2; exact h2.1)
    exact (runM_lim (fun c hc hg => readRound_lim (m := bulk) hc hg) (fun c hc he => (readRound_ok hc hb' he).1) F c h g).le
  · rw [if_neg (by simp), if_neg h2]
    exact (runM_lim (fun c hc hg => bufRound_lim (m := m) hc hg) (fun c hc he => (bufRound_ok hc hm he).1) F c h g).le
/-- what is told of a copying of so many bytes -/
def cnE (most : Int) (tot : Nat) (e : Int) : Int := if (tot : Int) = most then 0 else if (tot : Int) < most ∧ e = 0 then 364 else e
end Go.Proofs.YtigfgdefgnahpaaDoor

/-
  A wrapper more: the row of wrappers grows by one, in new memory. Not a statement of the seat.
-/
namespace Go.Proofs.YtigfgdefgnahpaaDoor
open Go.RowKit

def zeroPipe : Value := .agg #[.int .i64 0, .int .i64 0, .slice none 0 0, .int .i64 0, .bool false, .bool false, .int .i64 0]
theorem pipeInfo : ∃ i : TypeInfo, Tryd.prog.info? 43 = some i ∧ i.zero = some zeroPipe ∧ i.size = 7 ∧ i.bytes = 64 := by
  have h : (Tryd.prog.info? 43).map (fun i => (i.zero, i.size, i.bytes)) = some (some zeroPipe, 7, 64) := by kernel_rfl
  cases hi : Tryd.prog.info? 43 with
  | none => rw [hi] at h; cases h
  | some i =>
    rw [hi] at h
    simp only [Option.map_some, Option.some.injEq, Prod.mk.injEq] at h
    exact ⟨i, rfl, h.1, h.2.1, h.2.2⟩
/-- a wrapper without a side -/
def newPp (op n : Int) : Pp := ⟨op, n, none, 0, 0, [], 0, false, false, 0⟩
theorem rowC_snoc (ps : List Pp) (x : Pp) : rowC (ps ++ [x]) = rowC ps ++ x.cells := by simp [rowC]
theorem cells_one (x : Pp) : ∀ u ∈ x.cells, u.oneCell' = true := by
  intro u hu
  unfold Pp.cells at hu
  simp only [List.mem_cons, List.not_mem_nil, or_false] at hu
  rcases hu with rfl | rfl | rfl | rfl | rfl | rfl | rfl <;> rfl
theorem rowC_one (ps : List Pp) : ∀ u ∈ rowC ps, u.oneCell' = true := by
  intro u hu
  unfold rowC at hu
  obtain ⟨x, _, h⟩ := List.mem_flatMap.1 hu
  exact cells_one x u h
theorem below_of_grown {w w' : World} (h : w.grownBy w' none) : Below w.heap.size w w' :=
  ⟨h.os, h.tape, h.output, h.size, fun b hb => h.block b hb (by simp)⟩
theorem below_of_grownAt {w w' : World} {N : Nat} {row : Option Nat} (h : w.grownBy w' row) (hr : ∀ b, row = some b → N ≤ b) (hN : N ≤ w.heap.size) : Below N w w' :=
  ⟨h.os, h.tape, h.output, h.size, fun b hb => h.block b (by omega) (fun e => by have := hr b e.symm; omega)⟩
/-- one wrapper, laid for the append just now -/
theorem Rd.onePipe (w : World) (op n : Int) : Rd (w.alloc (.cells #[.int .i64 op, .int .i64 n, .slice none 0 0, .int .i64 0, .bool false, .bool false, .int .i64 0] 43)) 7 (some ⟨w.heap.size, 0, none⟩) 1 1 (newPp op n).cells := by
  have hB := Blk.new w #[.int .i64 op, .int .i64 n, .slice none 0 0, .int .i64 0, .bool false, .bool false, .int .i64 0] 43
  refine ⟨rfl, Nat.le_refl _, by unfold maxLen; omega, .inr ⟨w.heap.size, 0, rfl, hB.lt, fun j hj => ?_⟩⟩
  have := (hB.2 j hj).1
  rw [Nat.zero_add]
  exact this
theorem Pipes.more {W0 W : World} {pa pa' : Option Addr} {pn pc pc' B : Nat} {ps : List Pp} {op n : Int} (hP : Pipes W0 free pa pn pc ps) (hb : Below W0.heap.size W0 W) (hR : Row B W 7 pa' (pn + 1) pc' (rowC ps ++ (newPp op n).cells)) :
    Pipes W free pa' (pn + 1) pc' (ps ++ [newPp op n]) := by
  have g : Step (fun _ => False) W0 free W free := (Step.refl _ (fun _ _ => rfl)).calm hb
  refine ⟨⟨by rw [rowC_snoc]; exact hR.rd, .inr (fun _ _ => rfl)⟩, fun p hp => ?_⟩
  rcases List.mem_append.1 hp with hp | hp
  · exact (hP.2 p hp).step g (fun _ h => by cases h)
  · simp only [List.mem_singleton] at hp
    subst hp
    exact nilRdK W
theorem upto_more {ps : List Pp} {x : Pp} {n : Nat} (hn : ps.length = n) : upto (ps ++ [x]) (n + 1) = x.fresh :: upto ps n := by
  subst hn
  unfold upto
  rw [List.take_of_length_le (by simp), List.take_of_length_le (Nat.le_refl _)]
  simp
theorem uptoK_more {ps : List Pp} {x : Pp} {n : Nat} (hn : ps.length = n) : uptoK (ps ++ [x]) (n + 1) = x.kw :: uptoK ps n := by
  subst hn
  unfold uptoK
  rw [List.take_of_length_le (by simp), List.take_of_length_le (Nat.le_refl _)]
  simp
theorem srcFit_more {d : Nat} {zs : List Int} {ps : List Pp} {op : Int} (h : srcFit d zs ps = true) (hl : ps.length < 8) (ho : op = 1 ∨ op = 2) : srcFit d zs (ps ++ [newPp op 0]) = true := by
  unfold srcFit at *
  simp only [Bool.and_eq_true] at h ⊢
  obtain ⟨⟨⟨h1, h2⟩, _⟩, h4⟩ := h
  refine ⟨⟨⟨h1, h2⟩, by simp; omega⟩, ?_⟩
  rw [List.all_append, h4, Bool.true_and]
  rcases ho with rfl | rfl <;> rfl
theorem sinkFit_more {zs : List Int} {room bk : Int} {rd : Bool} {qs : List Pp} {op : Int} (h : sinkFit zs room rd bk qs = true) (hl : qs.length < 8) (ho : op = 1 ∨ op = 2) : sinkFit zs room rd bk (qs ++ [newPp op 0]) = true := by
  unfold sinkFit at *
  simp only [Bool.and_eq_true] at h ⊢
  obtain ⟨⟨h1, _⟩, h4⟩ := h
  refine ⟨⟨h1, by simp; omega⟩, ?_⟩
  rw [List.all_append, h4, Bool.true_and]
  rcases ho with rfl | rfl <;> rfl
theorem fitA_more {d : Nat} {zs : List Int} {ps : List Pp} {op : Int} (h : FitA d zs ps) (hl : ps.length < 8) (ho : op = 1 ∨ op = 2) : FitA d zs (ps ++ [newPp op 0]) := by
  obtain ⟨h1, h2, h3⟩ := h
  refine ⟨srcFit_more h1 hl ho, fun x hx => ?_, fun x hx => ?_⟩
  · rcases List.mem_append.1 hx with hx | hx
    · exact h2 x hx
    · simp only [List.mem_singleton] at hx
      subst hx
      exact ⟨by show (-9223372036854775808 : Int) ≤ 0; omega, by show (0 : Int) ≤ 9223372036854775807; omega⟩
  · rcases List.mem_append.1 hx with hx | hx
    · exact h3 x hx
    · simp only [List.mem_singleton] at hx
      subst hx
      rfl
end Go.Proofs.YtigfgdefgnahpaaDoor

/-
  A copied record laid into a box, whichever of the box and the copying comes first. Not a statement of the seat.
-/
namespace Go.Proofs.YtigfgdefgnahpaaDoor
open Go.RowKit

/-- a copied record handed back: its slices lie in new memory -/
def TP (n : Nat) (e : Int) (way : Nat) (d : ByteArray) (ss : List ByteArray) (cs : List Int) (k wk left : Nat) (w : World) (e' : Ending) (w' : World) : Prop :=
  ∃ a1 n1 c1 a2 n2 c2, e' = .returned (.agg #[.int .i64 n, .int .i64 e, .int .i64 way, .string d, .slice a1 n1 c1, .slice a2 n2 c2, .int .i64 k, .int .i64 wk, .int .i64 left]) ∧ Below w.heap.size w w' ∧
    Rd w' 1 a1 n1 c1 (ss.map Value.string) ∧ Rd w' 1 a2 n2 c2 (I3 cs) ∧ (∀ x, blockOf a1 = some x → w.heap.size ≤ x) ∧ ∀ x, blockOf a2 = some x → w.heap.size ≤ x
theorem toldS {n way : Nat} {e : Int} {t : Tank} {s : Sc} {ts : List Tank} {cs : List Int} {w w' : World} {e' : Ending} (h : ToldP n e way t s ts cs w e' w') : TP n e way (bytesS t) (ts.map bytesS) cs s.k t.k s.left w e' w' := by
  obtain ⟨a1, n1, c1, a2, n2, c2, rfl, hb, h1, h2, h3, h4⟩ := h
  refine ⟨a1, n1, c1, a2, n2, c2, rfl, hb, ?_, h2, h3, h4⟩
  rw [List.map_map]
  exact h1
/-- .. and laid into a box -/
def RecAt (n : Nat) (e : Int) (way : Nat) (d : ByteArray) (ss : List ByteArray) (cs : List Int) (k wk left : Nat) (wb : World) (v : Value) (wx : World) : Prop :=
  ∃ cb a1 n1 c1 a2 n2 c2, v = .pointer (some ⟨cb, 0, none⟩) ∧ Below wb.heap.size wb wx ∧ wb.heap.size ≤ cb ∧ Blk wx cb [.int .i64 n, .int .i64 e, .int .i64 way, .string d, .slice a1 n1 c1, .slice a2 n2 c2, .int .i64 k, .int .i64 wk, .int .i64 left] ∧
    Rd wx 1 a1 n1 c1 (ss.map Value.string) ∧ Rd wx 1 a2 n2 c2 (I3 cs)
section
variable {n way k wk left : Nat} {e : Int} {d : ByteArray} {ss : List ByteArray} {cs : List Int} {wb wA : World} {a1 a2 : Option Addr} {n1 c1 n2 c2 : Nat}
theorem RecAt.a (hb : Below wb.heap.size wb wA) (r1 : Rd wA 1 a1 n1 c1 (ss.map Value.string)) (r2 : Rd wA 1 a2 n2 c2 (I3 cs)) :
    RecAt n e way d ss cs k wk left wb (.pointer (some ⟨wA.heap.size, 0, none⟩)) (wA.alloc (.cells #[.int .i64 (n : Int), .int .i64 e, .int .i64 (way : Int), .string d, .slice a1 n1 c1, .slice a2 n2 c2, .int .i64 (k : Int), .int .i64 (wk : Int), .int .i64 (left : Int)] 37)) :=
  ⟨_, a1, n1, c1, a2, n2, c2, rfl, hb.alloc hb.size _, hb.size, Blk.new _ _ _, r1.alloc _, r2.alloc _⟩
theorem Rd.put9' {w : World} {sz : Nat} {a : Option Addr} {n c b : Nat} {xs : List Value} (h : Rd w sz a n c xs) (hn : blockOf a ≠ some b) (v0 v1 v2 v3 v4 v5 v6 v7 v8 : Value) :
    Rd (((((((((w.setCell ⟨b, 0, none⟩ v0).setCell ⟨b, 1, none⟩ v1).setCell ⟨b, 2, none⟩ v2).setCell ⟨b, 3, none⟩ v3).setCell ⟨b, 4, none⟩ v4).setCell ⟨b, 5, none⟩ v5).setCell ⟨b, 6, none⟩ v6).setCell ⟨b, 7, none⟩ v7).setCell ⟨b, 8, none⟩ v8) sz a n c xs :=
  ((((((((h.kept (grownBy_setAt _ ⟨b, 0, none⟩ v0) (.inl hn)).kept (grownBy_setAt _ ⟨b, 1, none⟩ v1) (.inl hn)).kept (grownBy_setAt _ ⟨b, 2, none⟩ v2) (.inl hn)).kept (grownBy_setAt _ ⟨b, 3, none⟩ v3) (.inl hn)).kept (grownBy_setAt _ ⟨b, 4, none⟩ v4) (.inl hn)).kept (grownBy_setAt _ ⟨b, 5, none⟩ v5) (.inl hn)).kept (grownBy_setAt _ ⟨b, 6, none⟩ v6) (.inl hn)).kept (grownBy_setAt _ ⟨b, 7, none⟩ v7) (.inl hn)).kept (grownBy_setAt _ ⟨b, 8, none⟩ v8) (.inl hn)
theorem RecAt.b {x0 x1 x2 x3 x4 x5 x6 x7 x8 : Value} (hb : Below wb.heap.size wb wA) (hz : Blk wA wb.heap.size [x0, x1, x2, x3, x4, x5, x6, x7, x8]) (r1 : Rd wA 1 a1 n1 c1 (ss.map Value.string)) (r2 : Rd wA 1 a2 n2 c2 (I3 cs)) (f1 : ∀ x, blockOf a1 = some x → wb.heap.size + 1 ≤ x) (f2 : ∀ x, blockOf a2 = some x → wb.heap.size + 1 ≤ x) :
    RecAt n e way d ss cs k wk left wb (.pointer (some ⟨wb.heap.size, 0, none⟩)) (((((((((wA.setCell ⟨wb.heap.size, 0, none⟩ (.int .i64 (n : Int))).setCell ⟨wb.heap.size, 1, none⟩ (.int .i64 e)).setCell ⟨wb.heap.size, 2, none⟩ (.int .i64 (way : Int))).setCell ⟨wb.heap.size, 3, none⟩ (.string d)).setCell ⟨wb.heap.size, 4, none⟩ (.slice a1 n1 c1)).setCell ⟨wb.heap.size, 5, none⟩ (.slice a2 n2 c2)).setCell ⟨wb.heap.size, 6, none⟩ (.int .i64 (k : Int))).setCell ⟨wb.heap.size, 7, none⟩ (.int .i64 (wk : Int))).setCell ⟨wb.heap.size, 8, none⟩ (.int .i64 (left : Int))) :=
  ⟨_, a1, n1, c1, a2, n2, c2, rfl, Below.put9 hb (Nat.le_refl _) _ _ _ _ _ _ _ _ _, Nat.le_refl _, Blk.put9 hz _ _ _ _ _ _ _ _ _,
    Rd.put9' r1 (fun e => by have := f1 _ e; omega) _ _ _ _ _ _ _ _ _, Rd.put9' r2 (fun e => by have := f2 _ e; omega) _ _ _ _ _ _ _ _ _⟩
end
section
variable {A : Sa} {zs tzs : List Int} {ps qs : List Pp} {eb m : Nat} {w : World}
theorem copyNT (hA : ArgsAt w A zs tzs ps qs) (hL : Laid eb w) (h : FitA A.dat.size zs ps) (hs : sinkFit tzs A.room A.rd A.bk qs = true) (hm1 : 1 ≤ m) (hm2 : m ≤ 65535) {R : Cp × Int × Int} (hR : resOf A zs tzs ps qs m = R) :
    Calls Tryd.prog 14 #[.agg A.src.toArray, .agg A.dst.toArray, .int .i64 m] w (TP R.1.tot R.2.1 R.2.2.toNat (bytesS R.1.t) ((sideTs R.1.l).map bytesS) (cntsOf R.1.l ++ cntsK R.1.k) R.1.s.k R.1.t.k R.1.s.left w) := by
  subst hR
  have hd : A.dat.data.toList.length = A.dat.size := Array.length_toList
  have h' : FitA A.dat.data.toList.length zs ps := by rw [hd]; exact h
  obtain ⟨p, k1, k2, k3, k4, k5, k6⟩ := fit_ok (over := A.over) A.early A.broken h' hs
  have hpl := hA.p.len
  have hql := hA.q.len
  have hbk := bk_of h hs
  have hw := copyM_way ⟨A.wr, fun _ => 0⟩ ⟨A.rd, fun _ => 0⟩ A.bk.toNat m 4400001 (cpOf A zs tzs ps qs)
  have := copyN (eb := eb) (p := p) (F := 4400001) (m := m) (bulk := A.bk.toNat) (way := (resOf A zs tzs ps qs m).2.2.toNat) (e := (resOf A zs tzs ps qs m).2.1) (R := (resOf A zs tzs ps qs m).1) (wrt := A.wr) (trd := A.rd) hA.z hA.p hA.t hA.q k3 (by omega) (by omega)
    (by rw [← hpl, ← hql]; exact k1) (fun hh => by have := k6 hh; omega) hm1 (by omega) hL.eof hL.et k2 (by rw [← hpl, ← hql]; unfold resOf at *; rw [← hw]; rfl)
  rw [← hbk] at this
  exact this.mono (fun e' w' ht => toldS ht)
end
theorem TP.copied {n way k wk left : Nat} {e : Int} {d : ByteArray} {ss : List ByteArray} {cs : List Int} {w w' : World} {e' : Ending} (h : TP n e way d ss cs k wk left w e' w') : CopiedP n e way d ss cs k wk left w e' w' := by
  obtain ⟨a1, n1, c1, a2, n2, c2, rfl, hb, h1, h2, _, _⟩ := h
  exact ⟨_, rfl, hb, a1, n1, c1, a2, n2, c2, rfl, h1, h2⟩
end Go.Proofs.YtigfgdefgnahpaaDoor
