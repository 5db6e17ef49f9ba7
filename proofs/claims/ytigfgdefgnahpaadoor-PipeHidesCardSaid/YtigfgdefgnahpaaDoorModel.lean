/-
  What a chain of readers, a sink and a copying do, as plain functions; no program in sight. Not a statement of the seat.
-/
import Derived.Test.YtigfgdefgnahpaaDoorOwn
namespace Go.Proofs.YtigfgdefgnahpaaDoor

abbrev Bytes := List UInt8
/-- errors by number: 0 none, -1 the end -/
def cutM (sizes : List Int) (k n : Nat) : Nat := if sizes.length = 0 then n else min n ((sizes[k % sizes.length]?).getD 0).toNat

structure Tank where
  sizes : List Int
  room : Int
  over : Bool
  has : Bytes
  k : Nat
/-- how many it takes -/
def Tank.took (t : Tank) (n : Nat) : Nat := if 0 ≤ t.room ∧ t.room - t.has.length < cutM t.sizes t.k n then (t.room - t.has.length).toNat else cutM t.sizes t.k n
def Tank.full (t : Tank) (n : Nat) : Bool := decide (0 ≤ t.room ∧ t.room - t.has.length < cutM t.sizes t.k n)
def Tank.said (t : Tank) (n : Nat) : Nat := if t.full n then t.took n else if t.over then n + 1 else t.took n
def Tank.put (t : Tank) (b : Bytes) : Tank := { t with has := t.has ++ b.take (t.took b.length), k := t.k + 1 }

/-- a wrapper of a source, with what it may hold -/
structure Wr where
  op : Int
  lim : Int
  cnt : Int
  tank : Tank

structure Sc where
  data : Bytes
  sizes : List Int
  early : Bool
  broken : Bool
  pos : Nat
  k : Nat
def Sc.left (s : Sc) : Nat := s.data.length - s.pos
def Sc.fin (s : Sc) : Int := if s.broken then 363 else -1
def Sc.gives (s : Sc) (m : Nat) : Nat := min (cutM s.sizes s.k m) s.left
def Sc.next (s : Sc) (m : Nat) : Sc := { s with k := s.k + 1, pos := s.pos + s.gives m }
def Sc.err (s : Sc) (m : Nat) : Int := if s.left = 0 then s.fin else if s.gives m = s.left ∧ s.early = true then s.fin else 0

structure Got where
  l : List Wr
  s : Sc
  n : Nat
  e : Int

def countUp (x : Wr) (n : Nat) : Wr := { x with cnt := x.cnt + n }
def limDown (x : Wr) (n : Nat) : Wr := { x with lim := x.lim - n }
def teeOf (s : Sc) (x : Wr) (g : Got) : Got :=
  if g.n = 0 then { g with l := x :: g.l }
  else
    { l := { x with tank := x.tank.put ((s.data.drop s.pos).take g.n) } :: g.l, s := g.s,
      n := if x.tank.full g.n then x.tank.took g.n else g.n, e := if x.tank.full g.n then 362 else g.e }

/-- a read of m bytes through the wrappers, the outermost first: how many bytes from where the source stood, and the error -/
def readM : List Wr → Sc → Nat → Got
  | [], s, m => { l := [], s := s.next m, n := s.gives m, e := s.err m }
  | x :: r, s, m =>
    if x.op = 3 then
      if x.lim ≤ 0 then { l := x :: r, s := s, n := 0, e := -1 }
      else
        let g := readM r s (if x.lim < m then x.lim.toNat else m)
        { g with l := limDown x g.n :: g.l }
    else if x.op = 2 then
      let g := readM r s m
      { g with l := countUp x g.n :: g.l }
    else if x.op = 4 then teeOf s x (readM r s m)
    else
      let g := readM r s m
      { g with l := x :: g.l }

theorem cutM_le (sizes : List Int) (k n : Nat) : cutM sizes k n ≤ n := by unfold cutM; split <;> omega
theorem took_le (t : Tank) (n : Nat) : t.took n ≤ n := by
  have := cutM_le t.sizes t.k n
  unfold Tank.took
  split <;> omega
theorem gives_le (s : Sc) (m : Nat) : s.gives m ≤ m := by
  have := cutM_le s.sizes s.k m
  unfold Sc.gives
  omega

/-- what is fit of a tank: room for what it has -/
def Tank.ok (t : Tank) : Prop := (∀ z ∈ t.sizes, 0 ≤ z ∧ z ≤ 65535) ∧ t.sizes.length ≤ 64 ∧ -1 ≤ t.room ∧ t.room ≤ 65535 ∧ (0 ≤ t.room → (t.has.length : Int) ≤ t.room)
theorem Tank.ok.put {t : Tank} (h : t.ok) (b : Bytes) : (t.put b).ok := by
  obtain ⟨h1, h2, h3, h4, h5⟩ := h
  refine ⟨h1, h2, h3, h4, fun h => ?_⟩
  have h6 := h5 h
  have h7 := took_le t b.length
  have h8 : (t.took b.length : Int) ≤ t.room - t.has.length := by
    have h9 : 0 ≤ t.room := h
    unfold Tank.took
    split <;> omega
  simp only [Tank.put, List.length_append, List.length_take]
  omega
theorem put_length (t : Tank) (b : Bytes) : (t.put b).has.length = t.has.length + t.took b.length := by
  have := took_le t b.length
  simp only [Tank.put, List.length_append, List.length_take]; omega

def Sc.ok (s : Sc) : Prop := (∀ z ∈ s.sizes, 0 ≤ z ∧ z ≤ 65535) ∧ s.sizes.length ≤ 64 ∧ s.pos ≤ s.data.length ∧ s.data.length ≤ 65535
theorem Sc.ok.next {s : Sc} (h : s.ok) (m : Nat) : (s.next m).ok := by
  obtain ⟨h1, h2, h3, h4⟩ := h
  refine ⟨h1, h2, ?_, h4⟩
  simp only [Sc.next, Sc.gives, Sc.left]; omega

/-- what holds of the wrappers while the source stands at s -/
def Wr.ok (x : Wr) (s : Sc) : Prop := x.tank.ok ∧ x.tank.has.length ≤ s.pos ∧ x.tank.k ≤ s.k ∧ 0 ≤ x.cnt ∧ x.cnt ≤ s.pos ∧ -9223372036854775808 ≤ x.lim ∧ x.lim ≤ 9223372036854775807
def Oks (l : List Wr) (s : Sc) : Prop := ∀ x ∈ l, x.ok s
theorem Wr.ok.later {x : Wr} {s s' : Sc} (h : x.ok s) (h1 : s.pos ≤ s'.pos) (h2 : s.k ≤ s'.k) : x.ok s' := by
  obtain ⟨a, b, c, d, e, f⟩ := h
  exact ⟨a, by omega, by omega, d, by omega, f⟩

structure Good (l : List Wr) (s : Sc) (m : Nat) (g : Got) : Prop where
  le : g.n ≤ m
  bytes : g.n ≤ g.s.pos - s.pos
  pos : s.pos ≤ g.s.pos
  kk : s.k ≤ g.s.k
  k1 : g.s.k ≤ s.k + 1
  data : g.s.data = s.data
  sizes : g.s.sizes = s.sizes
  early : g.s.early = s.early
  broken : g.s.broken = s.broken
  ok : g.s.ok
  oks : Oks g.l g.s
  len : g.l.length = l.length
  full : g.e = 0 → g.n = g.s.pos - s.pos
  kn : g.n ≠ 0 → g.s.k = s.k + 1
  err : g.e = 0 ∨ g.e = -1 ∨ g.e = 362 ∨ g.e = 363
  ops : g.l.map Wr.op = l.map Wr.op

theorem readM_good : ∀ (l : List Wr) (s : Sc) (m : Nat), s.ok → Oks l s → Good l s m (readM l s m)
  | [], s, m, hs, _ => by
    have h1 := gives_le s m
    refine ⟨h1, by simp [readM, Sc.next], by simp [readM, Sc.next], by simp [readM, Sc.next], by simp [readM, Sc.next], rfl, rfl, rfl, rfl, hs.next m, fun x hx => by simp [readM] at hx, rfl, fun _ => by simp [readM, Sc.next], fun _ => rfl, ?_, rfl⟩
    simp only [readM, Sc.err, Sc.fin]
    split <;> split <;> simp
    split <;> simp
  | x :: r, s, m, hs, ho => by
    have hx := ho x (by simp)
    have hr : Oks r s := fun y hy => ho y (by simp [hy])
    by_cases h3 : x.op = 3
    · by_cases hl : x.lim ≤ 0
      · have he : readM (x :: r) s m = { l := x :: r, s := s, n := 0, e := -1 } := by rw [readM, if_pos h3, if_pos hl]
        rw [he]
        exact ⟨Nat.zero_le _, by simp, Nat.le_refl _, Nat.le_refl _, by simp, rfl, rfl, rfl, rfl, hs, ho, rfl, fun h => by simp at h, fun h => absurd rfl h, .inr (.inl rfl), rfl⟩
      · have he : readM (x :: r) s m = { readM r s (if x.lim < m then x.lim.toNat else m) with l := limDown x (readM r s (if x.lim < m then x.lim.toNat else m)).n :: (readM r s (if x.lim < m then x.lim.toNat else m)).l } := by rw [readM, if_pos h3, if_neg hl]
        rw [he]
        have hm : (if x.lim < m then x.lim.toNat else m) ≤ m := by split <;> omega
        have hm2 : ((if x.lim < m then x.lim.toNat else m : Nat) : Int) ≤ x.lim := by split <;> omega
        generalize (if x.lim < m then x.lim.toNat else m) = m' at hm hm2 ⊢
        have g := readM_good r s m' hs hr
        have h6 := g.le
        refine ⟨Nat.le_trans g.le hm, g.bytes, g.pos, g.kk, g.k1, g.data, g.sizes, g.early, g.broken, g.ok, ?_, by simp [g.len], g.full, g.kn, g.err, by simp [g.ops, limDown]⟩
        intro y hy
        rcases List.mem_cons.1 hy with rfl | hy
        · obtain ⟨a, b, c, d, e, f, f'⟩ := hx.later g.pos g.kk
          refine ⟨a, b, c, d, e, ?_, ?_⟩ <;> (simp only [limDown]; omega)
        · exact g.oks y hy
    · by_cases h2 : x.op = 2
      · have he : readM (x :: r) s m = { readM r s m with l := countUp x (readM r s m).n :: (readM r s m).l } := by rw [readM, if_neg h3, if_pos h2]
        rw [he]
        have g := readM_good r s m hs hr
        refine ⟨g.le, g.bytes, g.pos, g.kk, g.k1, g.data, g.sizes, g.early, g.broken, g.ok, ?_, by simp [g.len], g.full, g.kn, g.err, by simp [g.ops, countUp]⟩
        intro y hy
        have h7 := g.pos
        have h8 := g.bytes
        rcases List.mem_cons.1 hy with rfl | hy
        · have h9 := hx.2.2.2.2.1
          obtain ⟨a, b, c, d, e, f⟩ := hx.later g.pos g.kk
          refine ⟨a, b, c, ?_, ?_, f⟩ <;> (simp only [countUp]; omega)
        · exact g.oks y hy
      · by_cases h4 : x.op = 4
        · have he : readM (x :: r) s m = teeOf s x (readM r s m) := by rw [readM, if_neg h3, if_neg h2, if_pos h4]
          rw [he]
          have g := readM_good r s m hs hr
          generalize readM r s m = G at g
          unfold teeOf
          by_cases h0 : G.n = 0
          · rw [if_pos h0]
            refine ⟨g.le, g.bytes, g.pos, g.kk, g.k1, g.data, g.sizes, g.early, g.broken, g.ok, ?_, by simp [g.len], g.full, g.kn, g.err, by simp [g.ops]⟩
            intro y hy
            rcases List.mem_cons.1 hy with rfl | hy
            · exact hx.later g.pos g.kk
            · exact g.oks y hy
          · rw [if_neg h0]
            have h7 := g.pos
            have h8 := g.bytes
            have h9 := g.le
            have h10 := took_le x.tank G.n
            have h13 := g.kn h0
            have h14 : ((s.data.drop s.pos).take G.n).length = G.n := by
              have := g.ok.2.2.1
              rw [g.data] at this
              rw [List.length_take, List.length_drop]; omega
            refine ⟨?_, ?_, g.pos, g.kk, g.k1, g.data, g.sizes, g.early, g.broken, g.ok, ?_, by simp [g.len], ?_, fun _ => h13, ?_, by simp [g.ops]⟩
            · show (if x.tank.full G.n then x.tank.took G.n else G.n) ≤ m
              split <;> omega
            · show (if x.tank.full G.n then x.tank.took G.n else G.n) ≤ G.s.pos - s.pos
              split <;> omega
            · intro y hy
              rcases List.mem_cons.1 hy with rfl | hy
              · obtain ⟨a, b, c, d⟩ := hx
                refine ⟨a.put _, ?_, ?_, (Wr.ok.later (s := s) ⟨a, b, c, d⟩ g.pos g.kk).2.2.2⟩
                · show (x.tank.put _).has.length ≤ G.s.pos
                  rw [put_length, h14]; omega
                · show (x.tank.put _).k ≤ G.s.k
                  simp only [Tank.put]; omega
              · exact g.oks y hy
            · show (if x.tank.full G.n then (362 : Int) else G.e) = 0 → (if x.tank.full G.n then x.tank.took G.n else G.n) = G.s.pos - s.pos
              split
              · intro h; cases h
              · exact g.full
            · show (if x.tank.full G.n then (362 : Int) else G.e) = 0 ∨ _
              split
              · exact .inr (.inr (.inl rfl))
              · exact g.err
        · have he : readM (x :: r) s m = { readM r s m with l := x :: (readM r s m).l } := by rw [readM, if_neg h3, if_neg h2, if_neg h4]
          rw [he]
          have g := readM_good r s m hs hr
          refine ⟨g.le, g.bytes, g.pos, g.kk, g.k1, g.data, g.sizes, g.early, g.broken, g.ok, ?_, by simp [g.len], g.full, g.kn, g.err, by simp [g.ops]⟩
          intro y hy
          rcases List.mem_cons.1 hy with rfl | hy
          · exact hx.later g.pos g.kk
          · exact g.oks y hy

/-- how far it still is: bytes left, then readings up to the next size above 0 (at place p) -/
def Sc.rem (p : Nat) (s : Sc) : Nat := s.left * 65 + (if s.sizes.length = 0 then 0 else (((p : Int) - s.k) % (s.sizes.length : Int)).toNat)
def Sc.some (p : Nat) (s : Sc) : Prop := s.sizes.length = 0 ∨ p < s.sizes.length ∧ 0 < (s.sizes[p]?).getD 0

theorem rem_next (p : Nat) (s : Sc) (m : Nat) (hs : s.ok) (hp : s.some p) (hm : 1 ≤ m) (hl : s.left ≠ 0) : (s.next m).rem p < s.rem p := by
  obtain ⟨h1, h2, h3, h4⟩ := hs
  have hleft : (s.next m).left = s.left - s.gives m := by
    simp only [Sc.left, Sc.next]; omega
  have hg : s.gives m ≤ s.left := by unfold Sc.gives; omega
  have hmod : ∀ a : Int, s.sizes.length ≠ 0 → 0 ≤ a % (s.sizes.length : Int) ∧ a % (s.sizes.length : Int) < s.sizes.length := fun a h => ⟨Int.emod_nonneg _ (by omega), Int.emod_lt_of_pos _ (by omega)⟩
  unfold Sc.rem
  rw [hleft]
  by_cases h0 : s.gives m = 0
  · have hc : cutM s.sizes s.k m = 0 := by unfold Sc.gives at h0; omega
    unfold cutM at hc
    by_cases hz : s.sizes.length = 0
    · rw [if_pos hz] at hc; omega
    · rw [if_neg hz] at hc
      have hv : ((s.sizes[s.k % s.sizes.length]?).getD 0).toNat = 0 := by omega
      rcases hp with hp | ⟨hp1, hp2⟩
      · exact absurd hp hz
      · have hne : s.k % s.sizes.length ≠ p := fun e => by rw [e] at hv; omega
        have e1 : (s.next m).sizes = s.sizes := rfl
        have e2 : (s.next m).k = s.k + 1 := rfl
        rw [e1, e2, if_neg hz, if_neg hz, h0, Nat.sub_zero]
        obtain ⟨a1, a2⟩ := hmod ((p : Int) - s.k) hz
        obtain ⟨b1, b2⟩ := hmod ((p : Int) - (s.k + 1 : Nat)) hz
        have hkey : ((p : Int) - (s.k + 1 : Nat)) % (s.sizes.length : Int) = ((p : Int) - s.k) % (s.sizes.length : Int) - 1 := by
          have hpos : 0 < ((p : Int) - s.k) % (s.sizes.length : Int) := by
            rcases Int.lt_or_eq_of_le a1 with h | h
            · exact h
            · exfalso
              apply hne
              have hd : (s.sizes.length : Int) ∣ (p : Int) - s.k := Int.dvd_of_emod_eq_zero h.symm
              have hem : (p : Int) % s.sizes.length = (s.k : Int) % s.sizes.length := Int.emod_eq_emod_iff_emod_sub_eq_zero.2 h.symm
              rw [Int.emod_eq_of_lt (by omega) (by omega)] at hem
              omega
          have hq : (p : Int) - (s.k + 1 : Nat) = ((p : Int) - s.k) - 1 := by omega
          rw [hq]
          have hdm := Int.mul_ediv_add_emod ((p : Int) - s.k) (s.sizes.length : Int)
          have : ((p : Int) - s.k) - 1 = (((p : Int) - s.k) % (s.sizes.length : Int) - 1) + (s.sizes.length : Int) * (((p : Int) - s.k) / (s.sizes.length : Int)) := by omega
          rw [this, Int.add_mul_emod_self_left, Int.emod_eq_of_lt (by omega) (by omega)]
        rw [hkey]
        omega
  · have e1 : (s.next m).sizes = s.sizes := rfl
    rw [e1]
    by_cases hz : s.sizes.length = 0
    · rw [if_pos hz, if_pos hz]; omega
    · rw [if_neg hz, if_neg hz]
      obtain ⟨a1, a2⟩ := hmod ((p : Int) - s.k) hz
      obtain ⟨b1, b2⟩ := hmod ((p : Int) - (s.next m).k) hz
      omega

theorem readM_rem (p : Nat) : ∀ (l : List Wr) (s : Sc) (m : Nat), s.ok → s.some p → 1 ≤ m → (readM l s m).e = 0 → (readM l s m).s.rem p < s.rem p
  | [], s, m, hs, hp, hm, he => by
    simp only [readM] at he ⊢
    refine rem_next p s m hs hp hm (fun h0 => ?_)
    simp only [Sc.err, h0, if_true, Sc.fin] at he
    split at he <;> cases he
  | x :: r, s, m, hs, hp, hm, he => by
    by_cases h3 : x.op = 3
    · by_cases hl : x.lim ≤ 0
      · rw [readM, if_pos h3, if_pos hl] at he; cases he
      · rw [readM, if_pos h3, if_neg hl] at he ⊢
        exact readM_rem p r s _ hs hp (by split <;> omega) he
    · by_cases h2 : x.op = 2
      · rw [readM, if_neg h3, if_pos h2] at he ⊢
        exact readM_rem p r s m hs hp hm he
      · by_cases h4 : x.op = 4
        · rw [readM, if_neg h3, if_neg h2, if_pos h4] at he ⊢
          unfold teeOf at he ⊢
          by_cases h0 : (readM r s m).n = 0
          · rw [if_pos h0] at he ⊢
            exact readM_rem p r s m hs hp hm he
          · rw [if_neg h0] at he ⊢
            by_cases hf : x.tank.full (readM r s m).n = true
            · simp only [hf, if_true] at he; cases he
            · simp only [hf] at he
              exact readM_rem p r s m hs hp hm (by simpa using he)
        · rw [readM, if_neg h3, if_neg h2, if_neg h4] at he ⊢
          exact readM_rem p r s m hs hp hm he
end Go.Proofs.YtigfgdefgnahpaaDoor
