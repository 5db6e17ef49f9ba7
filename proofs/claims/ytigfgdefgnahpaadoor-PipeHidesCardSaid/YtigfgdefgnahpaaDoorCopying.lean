/-
  Copying, as plain functions: by a buffer; by the sink's own reading; by the source's own writing. No program in sight. Not a statement of the seat.
-/
import Derived.Test.YtigfgdefgnahpaaDoorSinks
namespace Go.Proofs.YtigfgdefgnahpaaDoor

structure Cp where
  l : List Wr
  s : Sc
  k : List KW
  t : Tank
  tot : Nat

/-- how a reading's error ends a copying -/
def tailE (e : Int) : Option Int := if e = -1 then some 0 else if e = 0 then none else some e

def Cp.read (c : Cp) (m : Nat) : Cp := { c with l := (readM c.l c.s m).l, s := (readM c.l c.s m).s }
def Cp.put (c : Cp) (b : Bytes) : Cp := { c with t := c.t.put b, k := c.k.map (addK (c.t.said b.length)) }
def Cp.plus (c : Cp) (n : Nat) : Cp := { c with tot := c.tot + n }
def Cp.got (c : Cp) (m : Nat) : Bytes := (c.s.data.drop c.s.pos).take (readM c.l c.s m).n
def bufRound (m : Nat) (c : Cp) : Cp × Option Int :=
  let g := readM c.l c.s m
  if g.n = 0 then (c.read m, tailE g.e)
  else if g.n < c.t.said g.n then ((c.read m).put (c.got m), some 361)
  else if c.t.full g.n = true then (((c.read m).put (c.got m)).plus (c.t.said g.n), some 362)
  else if c.t.said g.n < g.n then (((c.read m).put (c.got m)).plus (c.t.said g.n), some 360)
  else (((c.read m).put (c.got m)).plus (c.t.said g.n), tailE g.e)

/-- rounds, till one ends it -/
def runM (round : Cp → Cp × Option Int) : Nat → Cp → Cp × Int
  | 0, c => (c, 0)
  | f + 1, c => match (round c).2 with
    | some e => ((round c).1, e)
    | none => runM round f (round c).1
theorem runM_stop {round : Cp → Cp × Option Int} {f : Nat} {c : Cp} {e : Int} (h : (round c).2 = some e) : runM round (f + 1) c = ((round c).1, e) := by rw [runM, h]
theorem runM_more {round : Cp → Cp × Option Int} {f : Nat} {c : Cp} (h : (round c).2 = none) : runM round (f + 1) c = runM round f (round c).1 := by rw [runM, h]

structure CpOk (p : Nat) (c : Cp) : Prop where
  s : c.s.ok
  some : c.s.some p
  l : Oks c.l c.s
  t : c.t.ok
  has : c.t.has.length ≤ c.s.pos
  tot : c.tot ≤ c.s.pos
  tk : c.t.k ≤ c.s.k
  k : ∀ x ∈ c.k, 0 ≤ x.2 ∧ x.2 ≤ c.s.pos
  kk : c.s.k + c.s.rem p ≤ 5000000

theorem tailE_none {e : Int} (h : tailE e = none) : e = 0 := by
  unfold tailE at h
  split at h
  · cases h
  · split at h
    · assumption
    · cases h
theorem got_length {p : Nat} {c : Cp} (h : CpOk p c) (m : Nat) : (c.got m).length = (readM c.l c.s m).n := by
  have g := readM_good c.l c.s m h.s h.l
  have h1 := g.ok.2.2.1
  have h2 := g.bytes
  have h3 := g.pos
  rw [g.data] at h1
  unfold Cp.got
  rw [List.length_take, List.length_drop]; omega
theorem some_of {p : Nat} {s s' : Sc} (h : s.some p) (e : s'.sizes = s.sizes) : s'.some p := by
  unfold Sc.some at *
  rw [e]; exact h

theorem read_ok {p m : Nat} {c : Cp} (h : CpOk p c) (hm : 1 ≤ m) (he : (readM c.l c.s m).e = 0) : CpOk p (c.read m) ∧ (c.read m).s.rem p < c.s.rem p := by
  have g := readM_good c.l c.s m h.s h.l
  have hr := readM_rem p c.l c.s m h.s h.some hm he
  have h1 := g.pos
  have h2 := g.kk
  have h3 := g.k1
  have h4 := h.kk
  refine ⟨⟨g.ok, some_of h.some g.sizes, g.oks, h.t, ?_, ?_, ?_, ?_, ?_⟩, hr⟩
  · have := h.has; simp only [Cp.read]; omega
  · have := h.tot; simp only [Cp.read]; omega
  · have := h.tk; simp only [Cp.read]; omega
  · intro x hx
    have := h.k x hx
    simp only [Cp.read]; omega
  · simp only [Cp.read]; omega

theorem bufRound_ok {p m : Nat} {c : Cp} (h : CpOk p c) (hm : 1 ≤ m) (hn : (bufRound m c).2 = none) : CpOk p (bufRound m c).1 ∧ (bufRound m c).1.s.rem p < c.s.rem p := by
  have g := readM_good c.l c.s m h.s h.l
  have hgl := got_length h m
  unfold bufRound at hn ⊢
  dsimp only at hn ⊢
  by_cases h0 : (readM c.l c.s m).n = 0
  · rw [if_pos h0] at hn ⊢
    exact read_ok h hm (tailE_none hn)
  · rw [if_neg h0] at hn ⊢
    by_cases h1 : (readM c.l c.s m).n < c.t.said (readM c.l c.s m).n
    · rw [if_pos h1] at hn; cases hn
    · rw [if_neg h1] at hn ⊢
      by_cases h2 : c.t.full (readM c.l c.s m).n = true
      · rw [if_pos h2] at hn; cases hn
      · rw [if_neg h2] at hn ⊢
        by_cases h3 : c.t.said (readM c.l c.s m).n < (readM c.l c.s m).n
        · rw [if_pos h3] at hn; cases hn
        · rw [if_neg h3] at hn ⊢
          obtain ⟨a, ar⟩ := read_ok h hm (tailE_none hn)
          have b1 := g.bytes
          have b2 := g.pos
          have b3 := took_le c.t (readM c.l c.s m).n
          refine ⟨⟨a.s, a.some, a.l, ?_, ?_, ?_, ?_, ?_, a.kk⟩, ar⟩
          · exact h.t.put _
          · show (c.t.put (c.got m)).has.length ≤ (readM c.l c.s m).s.pos
            rw [put_length, hgl]
            have := h.has
            omega
          · show c.tot + c.t.said (readM c.l c.s m).n ≤ (readM c.l c.s m).s.pos
            have := h.tot
            omega
          · show c.t.k + 1 ≤ (readM c.l c.s m).s.k
            have := g.kn h0
            have := h.tk
            omega
          · intro x hx
            have hx' : x ∈ c.k.map (addK (c.t.said (c.got m).length)) := hx
            obtain ⟨y, hy, rfl⟩ := List.mem_map.1 hx'
            have hy2 := h.k y hy
            show 0 ≤ (addK _ y).2 ∧ (addK _ y).2 ≤ ((readM c.l c.s m).s.pos : Int)
            rw [hgl]
            unfold addK
            dsimp only
            split <;> omega
end Go.Proofs.YtigfgdefgnahpaaDoor
