/-
  equal (walk). Not a statement of the seat.
-/
import Derived.Test.YtofpdhkdnbnobaaDoorEql
namespace Go.Proofs.YtofpdhkdnbnobaaDoor
open Go.RowKit

/-- what equal comes to -/
def EQP (r : Bool × Int) (w : World) (e : Ending) (w' : World) : Prop :=
  Below w.heap.size w w' ∧ ((r.2 = 0 ∧ e = .returned (.bool r.1)) ∨ (r = (false, 10) ∧ ∃ u v, e = .panicked [{ v := .iface u v, recovered := false }]))
def EQK (kids : Fo) : Prop := ∀ (g : Fo) (k i b k' i' b' : Int) (t t' : Bs) (x y : Value) (M : BM) (mb : Nat) (w : World), BxM M mb w → vOne M k i b t (ValF M kids) x → vOne M k' i' b' t' (ValF M g) y →
  fitsM k i b t kids.len = true → rightM kids = true → fitsM k' i' b' t' g.len = true → rightM g = true →
  Calls Tryd.prog 51 #[x, y] w (EQP (eqOne k i b t k' i' b' t' (eqF kids g)) w)

theorem tag_ne {k : Int} (h1 : 1 ≤ k) (h2 : k ≤ 13) (h9 : k ≠ 9) : tagOf k ≠ 116 := by
  intro e
  unfold tagOf at e
  repeat' split at e
  all_goals omega
theorem EQP.t {w w' : World} {e : Ending} (h : EQP (true, 0) w e w') : e = .returned (.bool true) ∧ Below w.heap.size w w' := by
  rcases h with ⟨h, ⟨_, h1⟩ | ⟨h1, _⟩⟩
  · exact ⟨h1, h⟩
  · exact absurd h1 (by decide)
theorem EQP.f {w w' : World} {e : Ending} (h : EQP (false, 0) w e w') : e = .returned (.bool false) ∧ Below w.heap.size w w' := by
  rcases h with ⟨h, ⟨_, h1⟩ | ⟨h1, _⟩⟩
  · exact ⟨h1, h⟩
  · exact absurd h1 (by decide)
theorem EQP.p {w w' : World} {e : Ending} (h : EQP (false, 10) w e w') : (∃ u v, e = .panicked [{ v := .iface u v, recovered := false }]) ∧ Below w.heap.size w w' := by
  rcases h with ⟨h, ⟨h1, _⟩ | ⟨_, h1⟩⟩
  · exact absurd h1 (by decide)
  · exact ⟨h1, h⟩

theorem vOne.pair {M : BM} {k i b : Int} {t : Bs} {f : Fo} {x : Value} (h : vOne M k i b t (ValF M f) x) : ∃ z1 z2 ok, (∀ w, (Instr.typeAssert x 20 116 true).run Tryd.prog w = .ok (.tuple #[.agg #[z1, z2], .bool ok]) w) ∧ z1.oneCell' = true ∧ z2.oneCell' = true ∧
    ((ok = true ∧ k = 9 ∧ ValF M f [z1, z2]) ∨ (ok = false ∧ k ≠ 9)) := by
  by_cases h9 : k = 9
  · subst h9
    simp only [vOne] at h
    obtain ⟨x1, x2, hv, rfl⟩ := h
    obtain ⟨_, _, _, _, _, _, _, _, _, _, rfl, a1, a2⟩ := hv.two
    exact ⟨x1, x2, true, fun w => ta_yes _ w, a1.one, a2.one, .inl ⟨rfl, rfl, hv⟩⟩
  · refine ⟨.nilIface, .nilIface, false, ?_, rfl, rfl, .inr ⟨rfl, h9⟩⟩
    intro w
    by_cases hk : k ≤ 0 ∨ 14 ≤ k
    · rw [vOne_nil hk h]
      exact ta_nil w
    · obtain ⟨v, rfl⟩ := h.tag (by omega) (by omega)
      exact ta_no _ _ w (tag_ne (by omega) (by omega) h9)

theorem guard20 {x y : Value} (hx : x = .nilIface ∨ ∃ u v, x = .iface u v) (hy : y = .nilIface ∨ ∃ u v, y = .iface u v) (w : World) : (eqGuard .eql 20 (.tmp 35) (.tmp 36) x y).run Tryd.prog w = .ok () w := by
  rcases hx with rfl | ⟨_, _, rfl⟩ <;> rcases hy with rfl | ⟨_, _, rfl⟩ <;> kernel_rfl

/-- the two pairs in their boxes -/
def pw2 (w : World) (x1 x2 y1 y2 : Value) : World := (w.alloc (.cells #[x1, x2] 116)).alloc (.cells #[y1, y2] 116)
theorem pw2_facts (w : World) (x1 x2 y1 y2 : Value) : (Blk (pw2 w x1 x2 y1 y2) w.heap.size [x1, x2] ∧ Blk (pw2 w x1 x2 y1 y2) (w.heap.size + 1) [y1, y2]) ∧ Below w.heap.size w (pw2 w x1 x2 y1 y2) := by
  have hs : (w.alloc (.cells #[x1, x2] 116)).heap.size = w.heap.size + 1 := by simp
  have hN := Blk.new (w.alloc (.cells #[x1, x2] 116)) #[y1, y2] 116
  rw [hs] at hN
  exact ⟨⟨(Blk.new w #[x1, x2] 116).alloc _, hN⟩, ((Below.refl _ w).alloc (Nat.le_refl _) _).alloc (by simp) _⟩

set_option maxHeartbeats 8000000 in
set_option maxRecDepth 100000 in
theorem eqN {kids : Fo} (hall : kids.All EQK) : EQK kids := by
  intro g k i b k' i' b' t t' x y M mb w hB hx hy hf hr hf' hr'
  obtain ⟨z1, z2, ok, hta, ho1, ho2, hz⟩ := hx.pair
  obtain ⟨u1, u2, too, htb, hp1, hp2, hu⟩ := hy.pair
  obtain ⟨⟨hA, hA'⟩, hW⟩ := pw2_facts w z1 z2 u1 u2
  have hs1 : ∀ (a : Addr) (w' : World), (store a z1).run Tryd.prog w' = stored Tryd.prog w' a z1 .plain := fun a w' => run_store _ _ _ _ _ ho1
  have hs2 : ∀ (a : Addr) (w' : World), (store a z2).run Tryd.prog w' = stored Tryd.prog w' a z2 .plain := fun a w' => run_store _ _ _ _ _ ho2
  have hs3 : ∀ (a : Addr) (w' : World), (store a u1).run Tryd.prog w' = stored Tryd.prog w' a u1 .plain := fun a w' => run_store _ _ _ _ _ hp1
  have hs4 : ∀ (a : Addr) (w' : World), (store a u2).run Tryd.prog w' = stored Tryd.prog w' a u2 .plain := fun a w' => run_store _ _ _ _ _ hp2
  have HB := Lib.hid (hB.below hW)
  have HX := Lib.hid (And.intro hx hy)
  have HZ := Lib.hid (And.intro hz hu)
  have HF := Lib.hid (And.intro (And.intro hf hr) (And.intro hf' hr'))
  have HALL := Lib.hid hall
  have HW := Lib.hid hW
  have HA := Lib.hid hA
  have HA' := Lib.hid hA'
  clear hB hx hy hz hu hf hr hf' hr' hall hW hA hA' ho1 ho2 hp1 hp2
  go_enter Tryd.func51, Tryd.ntmps51
  go_upto_region 3 with (fail)
  change Code.wp _ _ _ _ (pw2 w z1 z2 u1 u2)
  generalize pw2 w z1 z2 u1 u2 = w3 at *
  clear hta htb hs1 hs2 hs3 hs4
  have a0 := HA.out.cell 0 rfl
  have a1 := HA.out.cell 1 rfl
  have b0 := HA'.out.cell 0 rfl
  have b1 := HA'.out.cell 1 rfl
  by_cases h99 : ok = true ∧ too = true
  · obtain ⟨rfl, rfl⟩ := h99
    have hz := HZ.out
    simp only [true_and, Bool.true_eq_false, false_and, or_false] at hz
    obtain ⟨⟨rfl, hv⟩, rfl, hv'⟩ := hz
    obtain ⟨k1, i1, c1, t1, ks1, k2, i2, c2, t2, ks2, rfl, v1, v2⟩ := hv.two
    obtain ⟨k3, i3, c3, t3, ks3, k4, i4, c4, t4, ks4, rfl, v3, v4⟩ := hv'.two
    have hr := HF.out.1.2
    have hr' := HF.out.2.2
    have hal := HALL.out
    simp only [rightM, Bool.and_eq_true] at hr hr'
    have HC1 := Lib.hid (fun (wx : World) (hx : Below w3.heap.size w3 wx) => hal.1 ks3 k1 i1 c1 k3 i3 c3 t1 t3 z1 u1 M mb wx (HB.out.below hx) v1 v3 hr.1.1 hr.1.2 hr'.1.1 hr'.1.2)
    have HC2 := Lib.hid (fun (wx : World) (hx : Below w3.heap.size w3 wx) => hal.2.1 ks4 k2 i2 c2 k4 i4 c4 t2 t4 z2 u2 M mb wx (HB.out.below hx) v2 v4 hr.2.1.1 hr.2.1.2 hr'.2.1.1 hr'.2.1.2)
    have hpp : eqF (.cons k1 i1 c1 t1 ks1 (.cons k2 i2 c2 t2 ks2 .nil)) (.cons k3 i3 c3 t3 ks3 (.cons k4 i4 c4 t4 ks4 .nil)) = if (eqOne k1 i1 c1 t1 k3 i3 c3 t3 (eqF ks1 ks3)).1 then eqOne k2 i2 c2 t2 k4 i4 c4 t4 (eqF ks2 ks4) else eqOne k1 i1 c1 t1 k3 i3 c3 t3 (eqF ks1 ks3) := by
      simp only [eqF]
      exact nrm_two (eqOne_nrm (eqF_nrm ks2 ks4))
    have hN := eqOne_nrm (k := k1) (i := i1) (b := c1) (t := t1) (k' := k3) (i' := i3) (b' := c3) (t' := t3) (eqF_nrm ks1 ks3)
    have hN2 := eqOne_nrm (k := k2) (i := i2) (b := c2) (t := t2) (k' := k4) (i' := i4) (b' := c4) (t' := t4) (eqF_nrm ks2 ks4)
    generalize eqOne k1 i1 c1 t1 k3 i3 c3 t3 (eqF ks1 ks3) = r1 at *
    generalize eqOne k2 i2 c2 t2 k4 i4 c4 t4 (eqF ks2 ks4) = r2 at *
    have HPP := Lib.hid hpp
    clear hpp hv hv' v1 v2 v3 v4 hr hr' hal HALL HF HX HZ
    have hfin : ∀ (e : Ending) (w' : World), Below w3.heap.size w3 w' → ((if r1.1 then r2 else r1).2 = 0 ∧ e = .returned (.bool (if r1.1 then r2 else r1).1)) ∨ ((if r1.1 then r2 else r1) = (false, 10) ∧ ∃ u v, e = .panicked [{ v := .iface u v, recovered := false }]) →
        EQP (eqOne 9 i b t 9 i' b' t' (eqF (.cons k1 i1 c1 t1 ks1 (.cons k2 i2 c2 t2 ks2 .nil)) (.cons k3 i3 c3 t3 ks3 (.cons k4 i4 c4 t4 ks4 .nil)))) w e w' := by
      intro e w' hb h
      rw [HPP.out]
      refine ⟨HW.out.trans (hb.mono HW.out.size), ?_⟩
      simpa [eqOne] using h
    have HFIN := Lib.hid hfin
    clear hfin HPP
    rcases hN with rfl | rfl | rfl
    · rcases hN2 with rfl | rfl | rfl
      · go_wp2_with (first | (go_at_call 51; (with_reducible refine (HC1.out _ (Below.refl _ _)).mono ?_); intro e1 v1 hc1; obtain ⟨rfl, hb1⟩ := EQP.t hc1; clear hc1; have HB1 := Lib.hid hb1; have a1' := cellAt hb1 a1; have b1' := cellAt hb1 b1; clear hb1) | (go_at_call 51; (with_reducible refine (HC2.out _ (HB1.out)).mono ?_); intro e2 v2 hc2; obtain ⟨rfl, hb2⟩ := EQP.t hc2; clear hc2; have HB2 := Lib.hid hb2; clear hb2))
        go_ret
        exact HFIN.out _ _ (HB1.out.trans (HB2.out.mono HB1.out.size)) (.inl ⟨rfl, rfl⟩)
      · go_wp2_with (first | (go_at_call 51; (with_reducible refine (HC1.out _ (Below.refl _ _)).mono ?_); intro e1 v1 hc1; obtain ⟨rfl, hb1⟩ := EQP.t hc1; clear hc1; have HB1 := Lib.hid hb1; have a1' := cellAt hb1 a1; have b1' := cellAt hb1 b1; clear hb1) | (go_at_call 51; (with_reducible refine (HC2.out _ (HB1.out)).mono ?_); intro e2 v2 hc2; obtain ⟨rfl, hb2⟩ := EQP.f hc2; clear hc2; have HB2 := Lib.hid hb2; clear hb2))
        go_ret
        exact HFIN.out _ _ (HB1.out.trans (HB2.out.mono HB1.out.size)) (.inl ⟨rfl, rfl⟩)
      · go_wp2_with (first | (go_at_call 51; (with_reducible refine (HC1.out _ (Below.refl _ _)).mono ?_); intro e1 v1 hc1; obtain ⟨rfl, hb1⟩ := EQP.t hc1; clear hc1; have HB1 := Lib.hid hb1; have a1' := cellAt hb1 a1; have b1' := cellAt hb1 b1; clear hb1) | (go_at_call 51; (with_reducible refine (HC2.out _ (HB1.out)).mono ?_); intro e2 v2 hc2; obtain ⟨⟨pu2, pv2, rfl⟩, hb2⟩ := EQP.p hc2; clear hc2; have HB2 := Lib.hid hb2; clear hb2))
        exact ⟨rfl, HFIN.out _ _ (HB1.out.trans (HB2.out.mono HB1.out.size)) (.inr ⟨rfl, _, _, rfl⟩)⟩
    · go_wp2_with (go_at_call 51; (with_reducible refine (HC1.out _ (Below.refl _ _)).mono ?_); intro e1 v1 hc1; obtain ⟨rfl, hb1⟩ := EQP.f hc1; clear hc1; have HB1 := Lib.hid hb1; have a1' := cellAt hb1 a1; have b1' := cellAt hb1 b1; clear hb1)
      go_ret
      exact HFIN.out _ _ HB1.out (.inl ⟨rfl, rfl⟩)
    · go_wp2_with (go_at_call 51; (with_reducible refine (HC1.out _ (Below.refl _ _)).mono ?_); intro e1 v1 hc1; obtain ⟨⟨pu1, pv1, rfl⟩, hb1⟩ := EQP.p hc1; clear hc1; have HB1 := Lib.hid hb1; have a1' := cellAt hb1 a1; have b1' := cellAt hb1 b1; clear hb1)
      exact ⟨rfl, HFIN.out _ _ HB1.out (.inr ⟨rfl, _, _, rfl⟩)⟩
  · have h9 : ¬ (k = 9 ∧ k' = 9) := by
      intro h
      refine h99 ⟨?_, ?_⟩
      · rcases HZ.out.1 with h1 | h1
        · exact h1.1
        · exact absurd h.1 h1.2
      · rcases HZ.out.2 with h1 | h1
        · exact h1.1
        · exact absurd h.2 h1.2
    have hq := eq_run HB.out HX.out.1 HX.out.2 h9 HF.out.1.1 HF.out.2.1 (eqF kids g)
    generalize eqOne k i b t k' i' b' t' (eqF kids g) = rr at *
    clear h9 a0 a1 b0 b1
    have hg := guard20 HX.out.1.iface HX.out.2.iface w3
    rcases hq with ⟨h1, hrun⟩ | ⟨h1, pu, pv, hrun⟩
    · have H1 := Lib.hid h1
      clear h1
      cases ok
      · go_wp2_with fail
        go_ret
        exact ⟨HW.out, .inl ⟨H1.out, rfl⟩⟩
      · cases too
        · go_wp2_with fail
          go_ret
          exact ⟨HW.out, .inl ⟨H1.out, rfl⟩⟩
        · exact absurd ⟨rfl, rfl⟩ h99
    · have H1 := Lib.hid h1
      clear h1
      cases ok
      · go_wp2_with fail
        exact ⟨rfl, HW.out, .inr ⟨H1.out, _, _, rfl⟩⟩
      · cases too
        · go_wp2_with fail
          exact ⟨rfl, HW.out, .inr ⟨H1.out, _, _, rfl⟩⟩
        · exact absurd ⟨rfl, rfl⟩ h99
theorem eqAll : ∀ f : Fo, f.All EQK
  | .nil => trivial
  | .cons _ _ _ _ kids rest => ⟨eqN (eqAll kids), eqAll rest⟩
theorem eqG (kids : Fo) : EQK kids := eqN (eqAll kids)
end Go.Proofs.YtofpdhkdnbnobaaDoor
