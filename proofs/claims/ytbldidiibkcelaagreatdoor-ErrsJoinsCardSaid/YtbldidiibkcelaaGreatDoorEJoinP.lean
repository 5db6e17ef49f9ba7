/-
  ErrsJoins: what a row of errors comes to (plain). Not a statement of the seat.
-/
import Derived.Test.YtbldidiibkcelaaGreatDoorERWalk
import Derived.Test.YtbldidiibkcelaaGreatDoorERJoin
namespace Go.Proofs.YtbldidiibkcelaaGreatDoor
open Go.RowKit

theorem sameM_refl (f : Fo) : sameM f f = true := (sameM_eq f f).2 rfl
theorem sameDt_refl (b : Dt) : sameDt b b = true := by
  unfold sameDt headM
  simp [sameM_refl]
theorem esameM_refl : ∀ f : Eo, esameM f f = true
  | .nil => rfl
  | .cons k i c t b cs ks rest => by
    rw [esameM, esameM_refl ks, esameM_refl rest, sameDt_refl]
    simp
theorem esame1_refl (k i c : Int) (t : Bs) (b : Dt) (cs : List Int) (kids : Eo) : esame1 k i c t b cs kids k i c t b cs kids = true := by
  unfold esame1
  rw [sameDt_refl, esameM_refl]
  simp
/-- all are right -/
def allOK : Eo → Prop
  | .nil => True
  | .cons k i c t b cs ks rest => okE ⟨k, i, c, t, b, cs, ks⟩ ∧ allOK rest
theorem allOK_app : ∀ (f : Eo) {g : Eo}, allOK f → allOK g → allOK (f.app g)
  | .nil, _, _, h => h
  | .cons _ _ _ _ _ _ _ r, _, h, g => ⟨h.1, allOK_app r h.2 g⟩
theorem allOK_split : ∀ (f : Eo) {g : Eo}, allOK (f.app g) → allOK g
  | .nil, _, h => h
  | .cons _ _ _ _ _ _ _ r, _, h => allOK_split r h.2
theorem okC_all : ∀ f : Eo, allOK f → okC f
  | .nil, _ => trivial
  | .cons k i c t b cs ks rest, h => by
    obtain ⟨h1, h2, h3, h4⟩ := h.1.okS
    exact ⟨h1, h2, h3, h4, okC_all rest h.2⟩
theorem okE.rng {e : Et} (h : okE e) : 0 ≤ e.k ∧ e.k ≤ 10 := by
  have h3 := h.2.2.1
  unfold rright1 at h3
  rw [Bool.and_eq_true] at h3
  exact (fit_num h3.1).1
theorem okE.body {e : Et} (h : okE e) : e.k = 5 → okB e.b := by
  have h3 := h.2.2.1
  unfold rright1 at h3
  rw [Bool.and_eq_true] at h3
  exact (fit_num h3.1).2.2.1
theorem rngK_all : ∀ f : Eo, allOK f → rngK f
  | .nil, _ => trivial
  | .cons _ _ _ _ _ _ _ rest, h => ⟨h.1.rng, rngK_all rest h.2⟩
/-- how many ways, and one more for each -/
def nOf : Eo → Nat
  | .nil => 0
  | .cons k _ _ _ _ _ ks rest => (ways1 k ks).length + 1 + nOf rest
theorem nOf_app : ∀ (f g : Eo), nOf (f.app g) = nOf f + nOf g
  | .nil, g => by simp [Eo.app, nOf]
  | .cons k i c t b cs ks r, g => by simp only [Eo.app, nOf, nOf_app r g]; omega
theorem len_nOf : ∀ f : Eo, f.len ≤ nOf f
  | .nil => Nat.le_refl _
  | .cons k i c t b cs ks r => by have := len_nOf r; simp only [Eo.len, nOf]; omega
theorem small_filt : ∀ f : Eo, f.small → (filt f).small
  | .nil, h => h
  | .cons k i c t b cs ks rest, h => by
    rw [filt]
    split
    · exact small_filt rest h.2.2
    · exact ⟨h.1, h.2.1, small_filt rest h.2.2⟩
theorem isL_app (T : Et) : ∀ (f g : Eo), isL T (f.app g) = if decd (isL T f) then isL T f else isL T g
  | .nil, g => rfl
  | .cons k i c t b cs ks rest, g => by
    rw [Eo.app, isL_cons, isL_cons, isL_app T rest g]
    cases hd : decd (is1 T k i c t b cs ks)
    · simp
    · simp [hd]
/-- at a joined error, Is asks its parts -/
theorem is_join {T : Et} {id : Int} {f : Eo} (hT : T.k ≠ 0) (hne : ¬ (T.k = 4 ∧ T.i = id)) : isTop T 4 id 0 [] Dt.zero [] f = isL T f := by
  unfold isTop
  rw [if_neg (by rintro (h | h); exact absurd h (by decide); exact hT h), is1_pos (by decide)]
  have hh : isHead T 4 id 0 [] Dt.zero [] = (false, 0) := by
    unfold isHead
    have he : (if T.k = 6 then ((false, 0) : Bool × Int) else eqE 4 id 0 [] Dt.zero T.k T.i T.c T.t T.b) = (false, 0) := by
      split
      · rfl
      · unfold eqE
        by_cases h4 : T.k = 4
        · have hi : (id == T.i) = false := by
            rw [beq_eq_false_iff_ne]
            exact fun e => hne ⟨h4, e.symm⟩
          rw [h4, if_neg (by simp), if_neg (by omega), if_neg (by omega), if_neg (by omega), hi]
        · rw [if_pos (fun e => h4 e.symm)]
    rw [he]
    unfold saysM
    rfl
  rw [hh]
  rfl
theorem isTop_pos {T : Et} {k i c : Int} {t : Bs} {b : Dt} {cs : List Int} {kids : Eo} (hk : k ≠ 0) (hT : T.k ≠ 0) : isTop T k i c t b cs kids = is1 T k i c t b cs kids := by
  unfold isTop
  exact if_neg (by rintro (h | h); exact hk h; exact hT h)
theorem ErAt.lt {S : Nat → Prop} {w : World} {e : Et} {bl : Option Addr} {bn bc : Nat} {cl : Option Addr} {cn cc : Nat} {l : Option Addr} {n cap : Nat} (h : ErAt S w e bl bn bc cl cn cc l n cap) : ErAt (fun x => x < w.heap.size) w e bl bn bc cl cn cc l n cap :=
  h.same (fun _ _ _ => rfl) (fun _ _ hl => hl)
end Go.Proofs.YtbldidiibkcelaaGreatDoor
