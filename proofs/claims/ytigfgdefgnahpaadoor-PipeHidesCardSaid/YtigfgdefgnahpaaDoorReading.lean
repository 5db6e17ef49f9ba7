/-
  The sink's own reading, as plain functions; no program in sight. Not a statement of the seat.
-/
import Derived.Test.YtigfgdefgnahpaaDoorCopying
namespace Go.Proofs.YtigfgdefgnahpaaDoor

def Tank.tight (t : Tank) (n : Nat) : Bool := decide (0 ≤ t.room ∧ t.room - t.has.length < n)
def Tank.fits (t : Tank) (n : Nat) : Nat := if t.tight n then (t.room - t.has.length).toNat else n
def Tank.add (t : Tank) (b : Bytes) : Tank := { t with has := t.has ++ b }
def Cp.add (c : Cp) (b : Bytes) : Cp := { c with t := c.t.add b }
def readRound (m : Nat) (c : Cp) : Cp × Option Int :=
  let g := readM c.l c.s m
  let n := c.t.fits g.n
  (((c.read m).add ((c.got m).take n)).plus n, if c.t.tight g.n then some 362 else tailE g.e)
/-- .. and behind it what the counts count -/
def readsM (m F : Nat) (c : Cp) : Cp × Int :=
  let x := runM (readRound m) F c
  ({ x.1 with k := x.1.k.map (addK x.1.tot) }, x.2)

theorem fits_le (t : Tank) (h : t.ok) (n : Nat) : t.fits n ≤ n := by
  unfold Tank.fits Tank.tight
  split
  · rename_i h1
    have h2 := of_decide_eq_true h1
    have := h.2.2.2.2 h2.1
    omega
  · exact Nat.le_refl _
theorem Tank.ok.add {t : Tank} (h : t.ok) (b : Bytes) (n : Nat) (hn : t.fits n = b.length) : (t.add b).ok := by
  obtain ⟨h1, h2, h3, h4, h5⟩ := h
  refine ⟨h1, h2, h3, h4, fun h6 => ?_⟩
  have h7 := h5 h6
  have h8 : 0 ≤ t.room := h6
  simp only [Tank.add, List.length_append]
  unfold Tank.fits Tank.tight at hn
  split at hn
  · rename_i h9
    have := of_decide_eq_true h9
    omega
  · rename_i h9
    have : ¬ (0 ≤ t.room ∧ t.room - t.has.length < n) := fun h => h9 (decide_eq_true h)
    omega

theorem readRound_ok {p m : Nat} {c : Cp} (h : CpOk p c) (hm : 1 ≤ m) (hn : (readRound m c).2 = none) : CpOk p (readRound m c).1 ∧ (readRound m c).1.s.rem p < c.s.rem p := by
  have g := readM_good c.l c.s m h.s h.l
  have hgl := got_length h m
  unfold readRound at hn ⊢
  dsimp only at hn ⊢
  by_cases h1 : c.t.tight (readM c.l c.s m).n = true
  · rw [if_pos h1] at hn; cases hn
  · rw [if_neg h1] at hn
    have hf : c.t.fits (readM c.l c.s m).n = (readM c.l c.s m).n := by unfold Tank.fits; rw [if_neg h1]
    rw [hf]
    obtain ⟨a, ar⟩ := read_ok h hm (tailE_none hn)
    have b1 := g.bytes
    have b2 := g.pos
    have hl2 : ((c.got m).take (readM c.l c.s m).n).length = (readM c.l c.s m).n := by rw [List.length_take, hgl]; omega
    refine ⟨⟨a.s, a.some, a.l, ?_, ?_, ?_, ?_, ?_, a.kk⟩, ar⟩
    · exact h.t.add _ (readM c.l c.s m).n (by rw [hl2, hf])
    · show (c.t.add ((c.got m).take (readM c.l c.s m).n)).has.length ≤ (readM c.l c.s m).s.pos
      simp only [Tank.add, List.length_append, hl2]
      have := h.has
      omega
    · show c.tot + (readM c.l c.s m).n ≤ (readM c.l c.s m).s.pos
      have := h.tot
      omega
    · show c.t.k ≤ (readM c.l c.s m).s.k
      have := g.kk
      have := h.tk
      omega
    · intro x hx
      have hy2 := h.k x hx
      show 0 ≤ x.2 ∧ x.2 ≤ ((readM c.l c.s m).s.pos : Int)
      omega
theorem readRound_k (m : Nat) (c : Cp) : (readRound m c).1.k = c.k := rfl
theorem runM_k (m : Nat) : ∀ (f : Nat) (c : Cp), (runM (readRound m) f c).1.k = c.k
  | 0, _ => rfl
  | f + 1, c => by
    cases h : (readRound m c).2 with
    | some e => rw [runM_stop h]; rfl
    | none => rw [runM_more h, runM_k m f]; rfl
end Go.Proofs.YtigfgdefgnahpaaDoor
