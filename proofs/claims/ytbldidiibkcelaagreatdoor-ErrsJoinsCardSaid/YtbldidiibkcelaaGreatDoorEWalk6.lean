/-
  The walk through an error value, kind by kind (walks). Not a statement of the seat.
-/
import Derived.Test.YtbldidiibkcelaaGreatDoorEWalk1
namespace Go.Proofs.YtbldidiibkcelaaGreatDoor
open Go.RowKit

theorem ISP.tail {a0 : Addr} {h : Bool × Int} {fb : Nat} {w w1 : World} {e : Ending} {w' : World} (hK : Kept (N1 fb) w w1) (hI : ISP a0 h fb w1 e w') : ISP a0 h fb w e w' := ⟨hK.tail hI.1 (fun _ _ h => h), hI.2⟩
theorem isL_one (T : Et) (k i c : Int) (t : Bs) (b : Dt) (cs : List Int) (kids : Eo) : isL T (.cons k i c t b cs kids .nil) = is1 T k i c t b cs kids := by
  rw [isL_cons]
  rcases is1_nrm T k i c t b cs kids with h | h | h <;> rw [h] <;> rfl
theorem is1_pos {T : Et} {k i c : Int} {t : Bs} {b : Dt} {cs : List Int} {kids : Eo} (h0 : k ≠ 0) : is1 T k i c t b cs kids = if decd (isHead T k i c t b cs) then isHead T k i c t b cs else isL T kids := by
  unfold is1
  rw [if_neg h0]
set_option maxRecDepth 100000 in
set_option maxHeartbeats 4000000 in
/-- walk, at none -/
theorem walk0 {a0 : Addr} {S : Nat → Prop} {fb tb tt : Nat} {T : Et} {i c : Int} {t : Bs} {b : Dt} {cs : List Int} {kids : Eo} : WK1 a0 S fb tb tt T ⟨0, i, c, t, b, cs, kids⟩ .nilIface := by
  intro wa wn wc ws w _ hF _ _ _ _
  obtain ⟨_, _, hB⟩ := ww_facts w wa wn wc (F53 tb fb tt)
  have h0 : is1 T 0 i c t b cs kids = (false, 0) := by unfold is1; rw [if_pos rfl]
  show Calls Tryz.prog 52 _ w (ISP a0 (is1 T 0 i c t b cs kids) fb w)
  rw [h0]
  have HF := Lib.hid (hF.below hB)
  have HB := Lib.hid hB
  clear hF hB h0
  unfold F53
  go_enter Tryz.func52, Tryz.ntmps52
  go_upto_region 1 with (fail)
  change Code.wp _ _ _ _ (ww w wa wn wc (F53 tb fb tt))
  generalize ww w wa wn wc (F53 tb fb tt) = w1 at *
  go_wp2_with fail
  go_ret
  exact ⟨Kept.of' HB.out, .inr (.inl ⟨rfl, rfl, HF.out⟩)⟩
theorem nilEV {S N : Nat → Prop} {w : World} : EVAt S N w ⟨0, 0, 0, [], Dt.zero, [], .nil⟩ .nilIface := by
  refine ⟨none, 0, 0, none, 0, 0, none, 0, 0, 0, 0, rfl, ⟨FoAt.nil _ _, ⟨Rd.nil _ _, fun _ h => absurd h (by omega)⟩, EoAt.nil _ _⟩, fun e => ?_, fun e => ?_⟩
  · exact absurd (show (0 : Int) = 5 from e) (by decide)
  · exact absurd (show (0 : Int) = 2 ∨ (0 : Int) = 3 ∨ (0 : Int) = 4 ∨ (0 : Int) = 8 ∨ (0 : Int) = 9 from e) (by decide)
theorem m108u (v : Value) (w : World) : (method 389 108 v "Unwrap").run Tryz.prog w = .ok (187, v) w := by kernel_rfl
set_option maxRecDepth 100000 in
set_option maxHeartbeats 8000000 in
theorem wk1 {a0 : Addr} {S : Nat → Prop} {fb tb tt : Nat} {T : Et} {i c : Int} {t : Bs} {b : Dt} {cs : List Int} {v : Value} : WK1 a0 S fb tb tt T ⟨1, i, c, t, b, cs, .nil⟩ v := by
  intro wa wn wc ws w hT hF hv hRow hwf hdeep
  show Calls Tryz.prog 52 _ w (ISP a0 (is1 T 1 i c t b cs (.nil)) fb w)
  have hd9 : wn + ehi (.nil) ≤ 1000 := by
    rcases hdeep with h | h
    · exact h
    · exact absurd (show (1 : Int) = 0 from h) (by decide)
  obtain ⟨h1, h2, hB⟩ := ww_facts w wa wn wc (F53 tb fb tt)
  have hSf : ∀ x, S x → ¬ N1 fb x := fun x hx e => (hT.2.2.2.2.2.2 x hx).2 e
  have hN := isHead_nrm T 1 i c t b cs
  have HC := Lib.hid (is53 (e := ⟨1, i, c, t, b, cs, .nil⟩) (hT.below hB) (hv.below hB hSf) rfl (hF.below hB) (by show (1 : Int) ≤ 1; omega) (by show (1 : Int) ≤ 10; omega) (fun e => by cases e) (fun e => by cases e) (.slice wa wn wc))
  have his := is1_pos (T := T) (k := 1) (i := i) (c := c) (t := t) (b := b) (cs := cs) (kids := .nil) (by omega)
  generalize is1 T 1 i c t b cs (.nil) = res at *
  dsimp only at HC
  generalize isHead T 1 i c t b cs = h at *
  have HIS := Lib.hid his
  have HB := Lib.hid hB
  have HH := Lib.hid (And.intro h1 (And.intro h2 hF.1))
  have hmf : ∀ (fn : Fn) (first cap : Array Value) (w : World), (Instr.makeFunc fn first cap).run Tryz.prog w = .ok (.func fn first cap) w := fun _ _ _ _ => rfl
  have x0 := h1.cell 0 rfl
  have y0 := h2.cell 0 rfl
  have hta := fun v w => ta101_4 v w
  have htb := fun v w => ta101_5 v w
  have HV := Lib.hid hv
  obtain ⟨bl, bn, bc, cl, cn, cc, l, n, cap, q, p, hve, hE, _, hpt⟩ := hv
  have hve2 : v = .iface 101 (.agg #[.int .i64 c, .string ⟨t.toArray⟩]) := hve
  subst hve2
  clear hT hF hRow hwf hdeep hd9 hSf his h1 h2 hB hve hE hpt
  unfold F53 at *
  go_enter Tryz.func52, Tryz.ntmps52
  go_upto_region 1 with (fail)
  change Code.wp _ _ _ _ (ww w wa wn wc (.func (Fn.func 53) #[] #[.pointer (some ⟨tb, 0, none⟩), .pointer (some ⟨fb, 0, none⟩), .pointer (some ⟨tt, 0, none⟩)]))
  generalize ww w wa wn wc (.func (Fn.func 53) #[] #[.pointer (some ⟨tb, 0, none⟩), .pointer (some ⟨fb, 0, none⟩), .pointer (some ⟨tt, 0, none⟩)]) = w1 at *
  rcases hN with rfl | rfl | rfl
  · go_wp2_with (go_at_call 53; (with_reducible refine HC.out.mono ?_); intro e2 w2 hI; obtain ⟨rfl, hK2, hF2⟩ := ISP.t hI; have HK2 := Lib.hid ((Kept.of' (N := N1 fb) HB.out).tail hK2 (fun _ _ h => h)); have HF2 := Lib.hid hF2; have HW2 := Lib.hid (HH.out.1.keep hK2 (fun e => by have h1 := HH.out.2.2; unfold N1 at e; omega)); have HD2 := Lib.hid (HH.out.2.1.keep hK2 (fun e => by have h1 := HH.out.2.2; unfold N1 at e; omega)); clear hK2 hF2 hI)
    go_ret
    exact ⟨HK2.out, .inl ⟨by rw [HIS.out]; rfl, rfl, HF2.out⟩⟩
  rotate_left
  · go_wp2_with (go_at_call 53; (with_reducible refine HC.out.mono ?_); intro e2 w2 hI; obtain ⟨rfl, hK2⟩ := ISP.p hI; have HK2 := Lib.hid ((Kept.of' (N := N1 fb) HB.out).tail hK2 (fun _ _ h => h)); clear hK2 hI)
    exact ⟨rfl, HK2.out, .inr (.inr ⟨by rw [HIS.out]; rfl, rfl⟩)⟩
  · go_wp2_with (go_at_call 53; (with_reducible refine HC.out.mono ?_); intro e2 w2 hI; obtain ⟨rfl, hK2, hF2⟩ := ISP.f hI; have HK2 := Lib.hid ((Kept.of' (N := N1 fb) HB.out).tail hK2 (fun _ _ h => h)); have HF2 := Lib.hid hF2; have HW2 := Lib.hid (HH.out.1.keep hK2 (fun e => by have h1 := HH.out.2.2; unfold N1 at e; omega)); have HD2 := Lib.hid (HH.out.2.1.keep hK2 (fun e => by have h1 := HH.out.2.2; unfold N1 at e; omega)); clear hK2 hF2 hI)
    go_ret
    exact ⟨HK2.out, .inr (.inl ⟨by rw [HIS.out]; rfl, rfl, HF2.out⟩)⟩
set_option maxRecDepth 100000 in
set_option maxHeartbeats 8000000 in
theorem wk2 {a0 : Addr} {S : Nat → Prop} {fb tb tt : Nat} {T : Et} {i c : Int} {t : Bs} {b : Dt} {cs : List Int} {v : Value} : WK1 a0 S fb tb tt T ⟨2, i, c, t, b, cs, .nil⟩ v := by
  intro wa wn wc ws w hT hF hv hRow hwf hdeep
  show Calls Tryz.prog 52 _ w (ISP a0 (is1 T 2 i c t b cs (.nil)) fb w)
  have hd9 : wn + ehi (.nil) ≤ 1000 := by
    rcases hdeep with h | h
    · exact h
    · exact absurd (show (2 : Int) = 0 from h) (by decide)
  obtain ⟨h1, h2, hB⟩ := ww_facts w wa wn wc (F53 tb fb tt)
  have hSf : ∀ x, S x → ¬ N1 fb x := fun x hx e => (hT.2.2.2.2.2.2 x hx).2 e
  have hN := isHead_nrm T 2 i c t b cs
  have HC := Lib.hid (is53 (e := ⟨2, i, c, t, b, cs, .nil⟩) (hT.below hB) (hv.below hB hSf) rfl (hF.below hB) (by show (1 : Int) ≤ 2; omega) (by show (2 : Int) ≤ 10; omega) (fun e => by cases e) (fun e => by cases e) (.slice wa wn wc))
  have his := is1_pos (T := T) (k := 2) (i := i) (c := c) (t := t) (b := b) (cs := cs) (kids := .nil) (by omega)
  generalize is1 T 2 i c t b cs (.nil) = res at *
  dsimp only at HC
  generalize isHead T 2 i c t b cs = h at *
  have HIS := Lib.hid his
  have HB := Lib.hid hB
  have HH := Lib.hid (And.intro h1 (And.intro h2 hF.1))
  have hmf : ∀ (fn : Fn) (first cap : Array Value) (w : World), (Instr.makeFunc fn first cap).run Tryz.prog w = .ok (.func fn first cap) w := fun _ _ _ _ => rfl
  have x0 := h1.cell 0 rfl
  have y0 := h2.cell 0 rfl
  have hta := fun v w => ta89_4 v w
  have htb := fun v w => ta89_5 v w
  have HV := Lib.hid hv
  obtain ⟨bl, bn, bc, cl, cn, cc, l, n, cap, q, p, hve, hE, _, hpt⟩ := hv
  have hve2 : v = .iface 89 (.pointer (some ⟨p, 0, none⟩)) := hve
  subst hve2
  clear hT hF hRow hwf hdeep hd9 hSf his h1 h2 hB hve hE hpt
  unfold F53 at *
  go_enter Tryz.func52, Tryz.ntmps52
  go_upto_region 1 with (fail)
  change Code.wp _ _ _ _ (ww w wa wn wc (.func (Fn.func 53) #[] #[.pointer (some ⟨tb, 0, none⟩), .pointer (some ⟨fb, 0, none⟩), .pointer (some ⟨tt, 0, none⟩)]))
  generalize ww w wa wn wc (.func (Fn.func 53) #[] #[.pointer (some ⟨tb, 0, none⟩), .pointer (some ⟨fb, 0, none⟩), .pointer (some ⟨tt, 0, none⟩)]) = w1 at *
  rcases hN with rfl | rfl | rfl
  · go_wp2_with (go_at_call 53; (with_reducible refine HC.out.mono ?_); intro e2 w2 hI; obtain ⟨rfl, hK2, hF2⟩ := ISP.t hI; have HK2 := Lib.hid ((Kept.of' (N := N1 fb) HB.out).tail hK2 (fun _ _ h => h)); have HF2 := Lib.hid hF2; have HW2 := Lib.hid (HH.out.1.keep hK2 (fun e => by have h1 := HH.out.2.2; unfold N1 at e; omega)); have HD2 := Lib.hid (HH.out.2.1.keep hK2 (fun e => by have h1 := HH.out.2.2; unfold N1 at e; omega)); clear hK2 hF2 hI)
    go_ret
    exact ⟨HK2.out, .inl ⟨by rw [HIS.out]; rfl, rfl, HF2.out⟩⟩
  rotate_left
  · go_wp2_with (go_at_call 53; (with_reducible refine HC.out.mono ?_); intro e2 w2 hI; obtain ⟨rfl, hK2⟩ := ISP.p hI; have HK2 := Lib.hid ((Kept.of' (N := N1 fb) HB.out).tail hK2 (fun _ _ h => h)); clear hK2 hI)
    exact ⟨rfl, HK2.out, .inr (.inr ⟨by rw [HIS.out]; rfl, rfl⟩)⟩
  · go_wp2_with (go_at_call 53; (with_reducible refine HC.out.mono ?_); intro e2 w2 hI; obtain ⟨rfl, hK2, hF2⟩ := ISP.f hI; have HK2 := Lib.hid ((Kept.of' (N := N1 fb) HB.out).tail hK2 (fun _ _ h => h)); have HF2 := Lib.hid hF2; have HW2 := Lib.hid (HH.out.1.keep hK2 (fun e => by have h1 := HH.out.2.2; unfold N1 at e; omega)); have HD2 := Lib.hid (HH.out.2.1.keep hK2 (fun e => by have h1 := HH.out.2.2; unfold N1 at e; omega)); clear hK2 hF2 hI)
    go_ret
    exact ⟨HK2.out, .inr (.inl ⟨by rw [HIS.out]; rfl, rfl, HF2.out⟩)⟩
set_option maxRecDepth 100000 in
set_option maxHeartbeats 8000000 in
theorem wk5 {a0 : Addr} {S : Nat → Prop} {fb tb tt : Nat} {T : Et} {i c : Int} {t : Bs} {b : Dt} {cs : List Int} {v : Value} (h5 : okB b) : WK1 a0 S fb tb tt T ⟨5, i, c, t, b, cs, .nil⟩ v := by
  intro wa wn wc ws w hT hF hv hRow hwf hdeep
  show Calls Tryz.prog 52 _ w (ISP a0 (is1 T 5 i c t b cs (.nil)) fb w)
  have hd9 : wn + ehi (.nil) ≤ 1000 := by
    rcases hdeep with h | h
    · exact h
    · exact absurd (show (5 : Int) = 0 from h) (by decide)
  obtain ⟨h1, h2, hB⟩ := ww_facts w wa wn wc (F53 tb fb tt)
  have hSf : ∀ x, S x → ¬ N1 fb x := fun x hx e => (hT.2.2.2.2.2.2 x hx).2 e
  have hN := isHead_nrm T 5 i c t b cs
  have HC := Lib.hid (is53 (e := ⟨5, i, c, t, b, cs, .nil⟩) (hT.below hB) (hv.below hB hSf) rfl (hF.below hB) (by show (1 : Int) ≤ 5; omega) (by show (5 : Int) ≤ 10; omega) (fun e => h5) (fun e => by cases e) (.slice wa wn wc))
  have his := is1_pos (T := T) (k := 5) (i := i) (c := c) (t := t) (b := b) (cs := cs) (kids := .nil) (by omega)
  generalize is1 T 5 i c t b cs (.nil) = res at *
  dsimp only at HC
  generalize isHead T 5 i c t b cs = h at *
  have HIS := Lib.hid his
  have HB := Lib.hid hB
  have HH := Lib.hid (And.intro h1 (And.intro h2 hF.1))
  have hmf : ∀ (fn : Fn) (first cap : Array Value) (w : World), (Instr.makeFunc fn first cap).run Tryz.prog w = .ok (.func fn first cap) w := fun _ _ _ _ => rfl
  have x0 := h1.cell 0 rfl
  have y0 := h2.cell 0 rfl
  have hta := fun v w => ta106_4 v w
  have htb := fun v w => ta106_5 v w
  have HV := Lib.hid hv
  obtain ⟨bl, bn, bc, cl, cn, cc, l, n, cap, q, p, hve, hE, _, hpt⟩ := hv
  have hve2 : v = .iface 106 (.agg #[.pointer (some ⟨q, 0, none⟩)]) := hve
  subst hve2
  clear hT hF hRow hwf hdeep hd9 hSf his h1 h2 hB hve hE hpt h5
  unfold F53 at *
  go_enter Tryz.func52, Tryz.ntmps52
  go_upto_region 1 with (fail)
  change Code.wp _ _ _ _ (ww w wa wn wc (.func (Fn.func 53) #[] #[.pointer (some ⟨tb, 0, none⟩), .pointer (some ⟨fb, 0, none⟩), .pointer (some ⟨tt, 0, none⟩)]))
  generalize ww w wa wn wc (.func (Fn.func 53) #[] #[.pointer (some ⟨tb, 0, none⟩), .pointer (some ⟨fb, 0, none⟩), .pointer (some ⟨tt, 0, none⟩)]) = w1 at *
  rcases hN with rfl | rfl | rfl
  · go_wp2_with (go_at_call 53; (with_reducible refine HC.out.mono ?_); intro e2 w2 hI; obtain ⟨rfl, hK2, hF2⟩ := ISP.t hI; have HK2 := Lib.hid ((Kept.of' (N := N1 fb) HB.out).tail hK2 (fun _ _ h => h)); have HF2 := Lib.hid hF2; have HW2 := Lib.hid (HH.out.1.keep hK2 (fun e => by have h1 := HH.out.2.2; unfold N1 at e; omega)); have HD2 := Lib.hid (HH.out.2.1.keep hK2 (fun e => by have h1 := HH.out.2.2; unfold N1 at e; omega)); clear hK2 hF2 hI)
    go_ret
    exact ⟨HK2.out, .inl ⟨by rw [HIS.out]; rfl, rfl, HF2.out⟩⟩
  rotate_left
  · go_wp2_with (go_at_call 53; (with_reducible refine HC.out.mono ?_); intro e2 w2 hI; obtain ⟨rfl, hK2⟩ := ISP.p hI; have HK2 := Lib.hid ((Kept.of' (N := N1 fb) HB.out).tail hK2 (fun _ _ h => h)); clear hK2 hI)
    exact ⟨rfl, HK2.out, .inr (.inr ⟨by rw [HIS.out]; rfl, rfl⟩)⟩
  · go_wp2_with (go_at_call 53; (with_reducible refine HC.out.mono ?_); intro e2 w2 hI; obtain ⟨rfl, hK2, hF2⟩ := ISP.f hI; have HK2 := Lib.hid ((Kept.of' (N := N1 fb) HB.out).tail hK2 (fun _ _ h => h)); have HF2 := Lib.hid hF2; have HW2 := Lib.hid (HH.out.1.keep hK2 (fun e => by have h1 := HH.out.2.2; unfold N1 at e; omega)); have HD2 := Lib.hid (HH.out.2.1.keep hK2 (fun e => by have h1 := HH.out.2.2; unfold N1 at e; omega)); clear hK2 hF2 hI)
    go_ret
    exact ⟨HK2.out, .inr (.inl ⟨by rw [HIS.out]; rfl, rfl, HF2.out⟩)⟩
set_option maxRecDepth 100000 in
set_option maxHeartbeats 8000000 in
theorem wk6 {a0 : Addr} {S : Nat → Prop} {fb tb tt : Nat} {T : Et} {i c : Int} {t : Bs} {b : Dt} {cs : List Int} {v : Value} : WK1 a0 S fb tb tt T ⟨6, i, c, t, b, cs, .nil⟩ v := by
  intro wa wn wc ws w hT hF hv hRow hwf hdeep
  show Calls Tryz.prog 52 _ w (ISP a0 (is1 T 6 i c t b cs (.nil)) fb w)
  have hd9 : wn + ehi (.nil) ≤ 1000 := by
    rcases hdeep with h | h
    · exact h
    · exact absurd (show (6 : Int) = 0 from h) (by decide)
  obtain ⟨h1, h2, hB⟩ := ww_facts w wa wn wc (F53 tb fb tt)
  have hSf : ∀ x, S x → ¬ N1 fb x := fun x hx e => (hT.2.2.2.2.2.2 x hx).2 e
  have hN := isHead_nrm T 6 i c t b cs
  have HC := Lib.hid (is53 (e := ⟨6, i, c, t, b, cs, .nil⟩) (hT.below hB) (hv.below hB hSf) rfl (hF.below hB) (by show (1 : Int) ≤ 6; omega) (by show (6 : Int) ≤ 10; omega) (fun e => by cases e) (fun e => by cases e) (.slice wa wn wc))
  have his := is1_pos (T := T) (k := 6) (i := i) (c := c) (t := t) (b := b) (cs := cs) (kids := .nil) (by omega)
  generalize is1 T 6 i c t b cs (.nil) = res at *
  dsimp only at HC
  generalize isHead T 6 i c t b cs = h at *
  have HIS := Lib.hid his
  have HB := Lib.hid hB
  have HH := Lib.hid (And.intro h1 (And.intro h2 hF.1))
  have hmf : ∀ (fn : Fn) (first cap : Array Value) (w : World), (Instr.makeFunc fn first cap).run Tryz.prog w = .ok (.func fn first cap) w := fun _ _ _ _ => rfl
  have x0 := h1.cell 0 rfl
  have y0 := h2.cell 0 rfl
  have hta := fun v w => ta107_4 v w
  have htb := fun v w => ta107_5 v w
  have HV := Lib.hid hv
  obtain ⟨bl, bn, bc, cl, cn, cc, l, n, cap, q, p, hve, hE, _, hpt⟩ := hv
  have hve2 : v = .iface 107 (.slice cl cn cc) := hve
  subst hve2
  clear hT hF hRow hwf hdeep hd9 hSf his h1 h2 hB hve hE hpt
  unfold F53 at *
  go_enter Tryz.func52, Tryz.ntmps52
  go_upto_region 1 with (fail)
  change Code.wp _ _ _ _ (ww w wa wn wc (.func (Fn.func 53) #[] #[.pointer (some ⟨tb, 0, none⟩), .pointer (some ⟨fb, 0, none⟩), .pointer (some ⟨tt, 0, none⟩)]))
  generalize ww w wa wn wc (.func (Fn.func 53) #[] #[.pointer (some ⟨tb, 0, none⟩), .pointer (some ⟨fb, 0, none⟩), .pointer (some ⟨tt, 0, none⟩)]) = w1 at *
  rcases hN with rfl | rfl | rfl
  · go_wp2_with (go_at_call 53; (with_reducible refine HC.out.mono ?_); intro e2 w2 hI; obtain ⟨rfl, hK2, hF2⟩ := ISP.t hI; have HK2 := Lib.hid ((Kept.of' (N := N1 fb) HB.out).tail hK2 (fun _ _ h => h)); have HF2 := Lib.hid hF2; have HW2 := Lib.hid (HH.out.1.keep hK2 (fun e => by have h1 := HH.out.2.2; unfold N1 at e; omega)); have HD2 := Lib.hid (HH.out.2.1.keep hK2 (fun e => by have h1 := HH.out.2.2; unfold N1 at e; omega)); clear hK2 hF2 hI)
    go_ret
    exact ⟨HK2.out, .inl ⟨by rw [HIS.out]; rfl, rfl, HF2.out⟩⟩
  rotate_left
  · go_wp2_with (go_at_call 53; (with_reducible refine HC.out.mono ?_); intro e2 w2 hI; obtain ⟨rfl, hK2⟩ := ISP.p hI; have HK2 := Lib.hid ((Kept.of' (N := N1 fb) HB.out).tail hK2 (fun _ _ h => h)); clear hK2 hI)
    exact ⟨rfl, HK2.out, .inr (.inr ⟨by rw [HIS.out]; rfl, rfl⟩)⟩
  · go_wp2_with (go_at_call 53; (with_reducible refine HC.out.mono ?_); intro e2 w2 hI; obtain ⟨rfl, hK2, hF2⟩ := ISP.f hI; have HK2 := Lib.hid ((Kept.of' (N := N1 fb) HB.out).tail hK2 (fun _ _ h => h)); have HF2 := Lib.hid hF2; have HW2 := Lib.hid (HH.out.1.keep hK2 (fun e => by have h1 := HH.out.2.2; unfold N1 at e; omega)); have HD2 := Lib.hid (HH.out.2.1.keep hK2 (fun e => by have h1 := HH.out.2.2; unfold N1 at e; omega)); clear hK2 hF2 hI)
    go_ret
    exact ⟨HK2.out, .inr (.inl ⟨by rw [HIS.out]; rfl, rfl, HF2.out⟩)⟩
set_option maxRecDepth 100000 in
set_option maxHeartbeats 8000000 in
theorem wk7 {a0 : Addr} {S : Nat → Prop} {fb tb tt : Nat} {T : Et} {i c : Int} {t : Bs} {b : Dt} {cs : List Int} {v : Value} (h7 : i = 0) : WK1 a0 S fb tb tt T ⟨7, i, c, t, b, cs, .nil⟩ v := by
  intro wa wn wc ws w hT hF hv hRow hwf hdeep
  show Calls Tryz.prog 52 _ w (ISP a0 (is1 T 7 i c t b cs (.nil)) fb w)
  have hd9 : wn + ehi (.nil) ≤ 1000 := by
    rcases hdeep with h | h
    · exact h
    · exact absurd (show (7 : Int) = 0 from h) (by decide)
  obtain ⟨h1, h2, hB⟩ := ww_facts w wa wn wc (F53 tb fb tt)
  have hSf : ∀ x, S x → ¬ N1 fb x := fun x hx e => (hT.2.2.2.2.2.2 x hx).2 e
  have hN := isHead_nrm T 7 i c t b cs
  have HC := Lib.hid (is53 (e := ⟨7, i, c, t, b, cs, .nil⟩) (hT.below hB) (hv.below hB hSf) rfl (hF.below hB) (by show (1 : Int) ≤ 7; omega) (by show (7 : Int) ≤ 10; omega) (fun e => by cases e) (fun e => h7) (.slice wa wn wc))
  have his := is1_pos (T := T) (k := 7) (i := i) (c := c) (t := t) (b := b) (cs := cs) (kids := .nil) (by omega)
  generalize is1 T 7 i c t b cs (.nil) = res at *
  dsimp only at HC
  generalize isHead T 7 i c t b cs = h at *
  have HIS := Lib.hid his
  have HB := Lib.hid hB
  have HH := Lib.hid (And.intro h1 (And.intro h2 hF.1))
  have hmf : ∀ (fn : Fn) (first cap : Array Value) (w : World), (Instr.makeFunc fn first cap).run Tryz.prog w = .ok (.func fn first cap) w := fun _ _ _ _ => rfl
  have x0 := h1.cell 0 rfl
  have y0 := h2.cell 0 rfl
  have hta := fun v w => ta89_4 v w
  have htb := fun v w => ta89_5 v w
  have HV := Lib.hid hv
  obtain ⟨bl, bn, bc, cl, cn, cc, l, n, cap, q, p, hve, hE, _, hpt⟩ := hv
  have hve2 : v = .iface 89 (.pointer none) := hve
  subst hve2
  clear hT hF hRow hwf hdeep hd9 hSf his h1 h2 hB hve hE hpt h7
  unfold F53 at *
  go_enter Tryz.func52, Tryz.ntmps52
  go_upto_region 1 with (fail)
  change Code.wp _ _ _ _ (ww w wa wn wc (.func (Fn.func 53) #[] #[.pointer (some ⟨tb, 0, none⟩), .pointer (some ⟨fb, 0, none⟩), .pointer (some ⟨tt, 0, none⟩)]))
  generalize ww w wa wn wc (.func (Fn.func 53) #[] #[.pointer (some ⟨tb, 0, none⟩), .pointer (some ⟨fb, 0, none⟩), .pointer (some ⟨tt, 0, none⟩)]) = w1 at *
  rcases hN with rfl | rfl | rfl
  · go_wp2_with (go_at_call 53; (with_reducible refine HC.out.mono ?_); intro e2 w2 hI; obtain ⟨rfl, hK2, hF2⟩ := ISP.t hI; have HK2 := Lib.hid ((Kept.of' (N := N1 fb) HB.out).tail hK2 (fun _ _ h => h)); have HF2 := Lib.hid hF2; have HW2 := Lib.hid (HH.out.1.keep hK2 (fun e => by have h1 := HH.out.2.2; unfold N1 at e; omega)); have HD2 := Lib.hid (HH.out.2.1.keep hK2 (fun e => by have h1 := HH.out.2.2; unfold N1 at e; omega)); clear hK2 hF2 hI)
    go_ret
    exact ⟨HK2.out, .inl ⟨by rw [HIS.out]; rfl, rfl, HF2.out⟩⟩
  rotate_left
  · go_wp2_with (go_at_call 53; (with_reducible refine HC.out.mono ?_); intro e2 w2 hI; obtain ⟨rfl, hK2⟩ := ISP.p hI; have HK2 := Lib.hid ((Kept.of' (N := N1 fb) HB.out).tail hK2 (fun _ _ h => h)); clear hK2 hI)
    exact ⟨rfl, HK2.out, .inr (.inr ⟨by rw [HIS.out]; rfl, rfl⟩)⟩
  · go_wp2_with (go_at_call 53; (with_reducible refine HC.out.mono ?_); intro e2 w2 hI; obtain ⟨rfl, hK2, hF2⟩ := ISP.f hI; have HK2 := Lib.hid ((Kept.of' (N := N1 fb) HB.out).tail hK2 (fun _ _ h => h)); have HF2 := Lib.hid hF2; have HW2 := Lib.hid (HH.out.1.keep hK2 (fun e => by have h1 := HH.out.2.2; unfold N1 at e; omega)); have HD2 := Lib.hid (HH.out.2.1.keep hK2 (fun e => by have h1 := HH.out.2.2; unfold N1 at e; omega)); clear hK2 hF2 hI)
    go_ret
    exact ⟨HK2.out, .inr (.inl ⟨by rw [HIS.out]; rfl, rfl, HF2.out⟩)⟩
set_option maxRecDepth 100000 in
set_option maxHeartbeats 8000000 in
theorem wk9 {a0 : Addr} {S : Nat → Prop} {fb tb tt : Nat} {T : Et} {i c : Int} {t : Bs} {b : Dt} {cs : List Int} {v : Value} : WK1 a0 S fb tb tt T ⟨9, i, c, t, b, cs, .nil⟩ v := by
  intro wa wn wc ws w hT hF hv hRow hwf hdeep
  show Calls Tryz.prog 52 _ w (ISP a0 (is1 T 9 i c t b cs (.nil)) fb w)
  have hd9 : wn + ehi (.nil) ≤ 1000 := by
    rcases hdeep with h | h
    · exact h
    · exact absurd (show (9 : Int) = 0 from h) (by decide)
  obtain ⟨h1, h2, hB⟩ := ww_facts w wa wn wc (F53 tb fb tt)
  have hSf : ∀ x, S x → ¬ N1 fb x := fun x hx e => (hT.2.2.2.2.2.2 x hx).2 e
  have hN := isHead_nrm T 9 i c t b cs
  have HC := Lib.hid (is53 (e := ⟨9, i, c, t, b, cs, .nil⟩) (hT.below hB) (hv.below hB hSf) rfl (hF.below hB) (by show (1 : Int) ≤ 9; omega) (by show (9 : Int) ≤ 10; omega) (fun e => by cases e) (fun e => by cases e) (.slice wa wn wc))
  have his := is1_pos (T := T) (k := 9) (i := i) (c := c) (t := t) (b := b) (cs := cs) (kids := .nil) (by omega)
  generalize is1 T 9 i c t b cs (.nil) = res at *
  dsimp only at HC
  generalize isHead T 9 i c t b cs = h at *
  have HIS := Lib.hid his
  have HB := Lib.hid hB
  have HH := Lib.hid (And.intro h1 (And.intro h2 hF.1))
  have hmf : ∀ (fn : Fn) (first cap : Array Value) (w : World), (Instr.makeFunc fn first cap).run Tryz.prog w = .ok (.func fn first cap) w := fun _ _ _ _ => rfl
  have x0 := h1.cell 0 rfl
  have y0 := h2.cell 0 rfl
  have hta := fun v w => ta109_4 v w
  have htb := fun v w => ta109_5 v w
  have HV := Lib.hid hv
  obtain ⟨bl, bn, bc, cl, cn, cc, l, n, cap, q, p, hve, hE, _, hpt⟩ := hv
  have hve2 : v = .iface 109 (.pointer (some ⟨p, 0, none⟩)) := hve
  subst hve2
  clear hT hF hRow hwf hdeep hd9 hSf his h1 h2 hB hve hE hpt
  unfold F53 at *
  go_enter Tryz.func52, Tryz.ntmps52
  go_upto_region 1 with (fail)
  change Code.wp _ _ _ _ (ww w wa wn wc (.func (Fn.func 53) #[] #[.pointer (some ⟨tb, 0, none⟩), .pointer (some ⟨fb, 0, none⟩), .pointer (some ⟨tt, 0, none⟩)]))
  generalize ww w wa wn wc (.func (Fn.func 53) #[] #[.pointer (some ⟨tb, 0, none⟩), .pointer (some ⟨fb, 0, none⟩), .pointer (some ⟨tt, 0, none⟩)]) = w1 at *
  rcases hN with rfl | rfl | rfl
  · go_wp2_with (go_at_call 53; (with_reducible refine HC.out.mono ?_); intro e2 w2 hI; obtain ⟨rfl, hK2, hF2⟩ := ISP.t hI; have HK2 := Lib.hid ((Kept.of' (N := N1 fb) HB.out).tail hK2 (fun _ _ h => h)); have HF2 := Lib.hid hF2; have HW2 := Lib.hid (HH.out.1.keep hK2 (fun e => by have h1 := HH.out.2.2; unfold N1 at e; omega)); have HD2 := Lib.hid (HH.out.2.1.keep hK2 (fun e => by have h1 := HH.out.2.2; unfold N1 at e; omega)); clear hK2 hF2 hI)
    go_ret
    exact ⟨HK2.out, .inl ⟨by rw [HIS.out]; rfl, rfl, HF2.out⟩⟩
  rotate_left
  · go_wp2_with (go_at_call 53; (with_reducible refine HC.out.mono ?_); intro e2 w2 hI; obtain ⟨rfl, hK2⟩ := ISP.p hI; have HK2 := Lib.hid ((Kept.of' (N := N1 fb) HB.out).tail hK2 (fun _ _ h => h)); clear hK2 hI)
    exact ⟨rfl, HK2.out, .inr (.inr ⟨by rw [HIS.out]; rfl, rfl⟩)⟩
  · go_wp2_with (go_at_call 53; (with_reducible refine HC.out.mono ?_); intro e2 w2 hI; obtain ⟨rfl, hK2, hF2⟩ := ISP.f hI; have HK2 := Lib.hid ((Kept.of' (N := N1 fb) HB.out).tail hK2 (fun _ _ h => h)); have HF2 := Lib.hid hF2; have HW2 := Lib.hid (HH.out.1.keep hK2 (fun e => by have h1 := HH.out.2.2; unfold N1 at e; omega)); have HD2 := Lib.hid (HH.out.2.1.keep hK2 (fun e => by have h1 := HH.out.2.2; unfold N1 at e; omega)); clear hK2 hF2 hI)
    go_ret
    exact ⟨HK2.out, .inr (.inl ⟨by rw [HIS.out]; rfl, rfl, HF2.out⟩)⟩
set_option maxRecDepth 100000 in
set_option maxHeartbeats 8000000 in
theorem wk10 {a0 : Addr} {S : Nat → Prop} {fb tb tt : Nat} {T : Et} {i c : Int} {t : Bs} {b : Dt} {cs : List Int} {v : Value} : WK1 a0 S fb tb tt T ⟨10, i, c, t, b, cs, .nil⟩ v := by
  intro wa wn wc ws w hT hF hv hRow hwf hdeep
  show Calls Tryz.prog 52 _ w (ISP a0 (is1 T 10 i c t b cs (.nil)) fb w)
  have hd9 : wn + ehi (.nil) ≤ 1000 := by
    rcases hdeep with h | h
    · exact h
    · exact absurd (show (10 : Int) = 0 from h) (by decide)
  obtain ⟨h1, h2, hB⟩ := ww_facts w wa wn wc (F53 tb fb tt)
  have hSf : ∀ x, S x → ¬ N1 fb x := fun x hx e => (hT.2.2.2.2.2.2 x hx).2 e
  have hN := isHead_nrm T 10 i c t b cs
  have HC := Lib.hid (is53 (e := ⟨10, i, c, t, b, cs, .nil⟩) (hT.below hB) (hv.below hB hSf) rfl (hF.below hB) (by show (1 : Int) ≤ 10; omega) (by show (10 : Int) ≤ 10; omega) (fun e => by cases e) (fun e => by cases e) (.slice wa wn wc))
  have his := is1_pos (T := T) (k := 10) (i := i) (c := c) (t := t) (b := b) (cs := cs) (kids := .nil) (by omega)
  generalize is1 T 10 i c t b cs (.nil) = res at *
  dsimp only at HC
  generalize isHead T 10 i c t b cs = h at *
  have HIS := Lib.hid his
  have HB := Lib.hid hB
  have HH := Lib.hid (And.intro h1 (And.intro h2 hF.1))
  have hmf : ∀ (fn : Fn) (first cap : Array Value) (w : World), (Instr.makeFunc fn first cap).run Tryz.prog w = .ok (.func fn first cap) w := fun _ _ _ _ => rfl
  have x0 := h1.cell 0 rfl
  have y0 := h2.cell 0 rfl
  have hta := fun v w => ta110_4 v w
  have htb := fun v w => ta110_5 v w
  have HV := Lib.hid hv
  obtain ⟨bl, bn, bc, cl, cn, cc, l, n, cap, q, p, hve, hE, _, hpt⟩ := hv
  have hve2 : v = .iface 110 (.agg #[.int .i64 c, .string ⟨t.toArray⟩]) := hve
  subst hve2
  clear hT hF hRow hwf hdeep hd9 hSf his h1 h2 hB hve hE hpt
  unfold F53 at *
  go_enter Tryz.func52, Tryz.ntmps52
  go_upto_region 1 with (fail)
  change Code.wp _ _ _ _ (ww w wa wn wc (.func (Fn.func 53) #[] #[.pointer (some ⟨tb, 0, none⟩), .pointer (some ⟨fb, 0, none⟩), .pointer (some ⟨tt, 0, none⟩)]))
  generalize ww w wa wn wc (.func (Fn.func 53) #[] #[.pointer (some ⟨tb, 0, none⟩), .pointer (some ⟨fb, 0, none⟩), .pointer (some ⟨tt, 0, none⟩)]) = w1 at *
  rcases hN with rfl | rfl | rfl
  · go_wp2_with (go_at_call 53; (with_reducible refine HC.out.mono ?_); intro e2 w2 hI; obtain ⟨rfl, hK2, hF2⟩ := ISP.t hI; have HK2 := Lib.hid ((Kept.of' (N := N1 fb) HB.out).tail hK2 (fun _ _ h => h)); have HF2 := Lib.hid hF2; have HW2 := Lib.hid (HH.out.1.keep hK2 (fun e => by have h1 := HH.out.2.2; unfold N1 at e; omega)); have HD2 := Lib.hid (HH.out.2.1.keep hK2 (fun e => by have h1 := HH.out.2.2; unfold N1 at e; omega)); clear hK2 hF2 hI)
    go_ret
    exact ⟨HK2.out, .inl ⟨by rw [HIS.out]; rfl, rfl, HF2.out⟩⟩
  rotate_left
  · go_wp2_with (go_at_call 53; (with_reducible refine HC.out.mono ?_); intro e2 w2 hI; obtain ⟨rfl, hK2⟩ := ISP.p hI; have HK2 := Lib.hid ((Kept.of' (N := N1 fb) HB.out).tail hK2 (fun _ _ h => h)); clear hK2 hI)
    exact ⟨rfl, HK2.out, .inr (.inr ⟨by rw [HIS.out]; rfl, rfl⟩)⟩
  · go_wp2_with (go_at_call 53; (with_reducible refine HC.out.mono ?_); intro e2 w2 hI; obtain ⟨rfl, hK2, hF2⟩ := ISP.f hI; have HK2 := Lib.hid ((Kept.of' (N := N1 fb) HB.out).tail hK2 (fun _ _ h => h)); have HF2 := Lib.hid hF2; have HW2 := Lib.hid (HH.out.1.keep hK2 (fun e => by have h1 := HH.out.2.2; unfold N1 at e; omega)); have HD2 := Lib.hid (HH.out.2.1.keep hK2 (fun e => by have h1 := HH.out.2.2; unfold N1 at e; omega)); clear hK2 hF2 hI)
    go_ret
    exact ⟨HK2.out, .inr (.inl ⟨by rw [HIS.out]; rfl, rfl, HF2.out⟩)⟩
set_option maxRecDepth 100000 in
set_option maxHeartbeats 8000000 in
theorem wk3 {a0 : Addr} {S : Nat → Prop} {fb tb tt : Nat} {T : Et} {i c : Int} {t : Bs} {b : Dt} {cs : List Int} {v : Value} {k2 i2 c2 : Int} {t2 : Bs} {b2 : Dt} {cs2 : List Int} {ks : Eo} (hOK : ∀ v2, WK1 a0 S fb tb tt T ⟨k2, i2, c2, t2, b2, cs2, ks⟩ v2) : WK1 a0 S fb tb tt T ⟨3, i, c, t, b, cs, .cons k2 i2 c2 t2 b2 cs2 ks .nil⟩ v := by
  intro wa wn wc ws w hT hF hv hRow hwf hdeep
  show Calls Tryz.prog 52 _ w (ISP a0 (is1 T 3 i c t b cs (.cons k2 i2 c2 t2 b2 cs2 ks .nil)) fb w)
  have hd9 : wn + ehi (.cons k2 i2 c2 t2 b2 cs2 ks .nil) ≤ 1000 := by
    rcases hdeep with h | h
    · exact h
    · exact absurd (show (3 : Int) = 0 from h) (by decide)
  obtain ⟨h1, h2, hB⟩ := ww_facts w wa wn wc (F53 tb fb tt)
  have hSf : ∀ x, S x → ¬ N1 fb x := fun x hx e => (hT.2.2.2.2.2.2 x hx).2 e
  have hN := isHead_nrm T 3 i c t b cs
  have HC := Lib.hid (is53 (e := ⟨3, i, c, t, b, cs, .cons k2 i2 c2 t2 b2 cs2 ks .nil⟩) (hT.below hB) (hv.below hB hSf) rfl (hF.below hB) (by show (1 : Int) ≤ 3; omega) (by show (3 : Int) ≤ 10; omega) (fun e => by cases e) (fun e => by cases e) (.slice wa wn wc))
  have his := is1_pos (T := T) (k := 3) (i := i) (c := c) (t := t) (b := b) (cs := cs) (kids := .cons k2 i2 c2 t2 b2 cs2 ks .nil) (by omega)
  generalize is1 T 3 i c t b cs (.cons k2 i2 c2 t2 b2 cs2 ks .nil) = res at *
  dsimp only at HC
  generalize isHead T 3 i c t b cs = h at *
  have HIS := Lib.hid his
  have HB := Lib.hid hB
  have HH := Lib.hid (And.intro h1 (And.intro h2 hF.1))
  have hmf : ∀ (fn : Fn) (first cap : Array Value) (w : World), (Instr.makeFunc fn first cap).run Tryz.prog w = .ok (.func fn first cap) w := fun _ _ _ _ => rfl
  have x0 := h1.cell 0 rfl
  have y0 := h2.cell 0 rfl
  have hta := fun v w => ta102_4 v w
  have htb := fun v w => ta102_5 v w
  have HV := Lib.hid hv
  obtain ⟨bl, bn, bc, cl, cn, cc, l, n, cap, q, p, hve, hE, _, hpt⟩ := hv
  have hve2 : v = .iface 102 (.pointer (some ⟨p, 0, none⟩)) := hve
  subst hve2
  have hP := hpt (.inr (.inl rfl))
  have hmu := fun v w => m102u v w
  have HCU := Lib.hid (fun (wx : World) (hx : Kept (N1 fb) w wx) => unw149 (S := S) (N := N1 fb) (hP.1.keep hx (fun e => hP.2 e)) ((hE.same (fun x hx' hl => hx.block x hl (fun e => hSf x hx' e)) (fun x hx' _ => hx')).2.2) (fun x e => by unfold N1 at e; rw [e]; exact Nat.lt_of_lt_of_le hF.1 hx.size))
  have HCN := Lib.hid (fun (wx : World) (v2 : Value) (hx : Kept (N1 fb) w wx) (hf : Blk wx fb [.bool false]) (hvv : EVAt S (N1 fb) wx ⟨k2, i2, c2, t2, b2, cs2, ks⟩ v2) (hw : Blk wx w.heap.size [.slice wa wn wc]) (hd : Blk wx (w.heap.size + 1) [F53 tb fb tt]) =>
    (next83g (hOK v2) (hT.keep hx) hf hvv (hRow.keep hx (fun x hx' e => hwf x hx' e)) (by have h9 := hd9; simp only [ehi] at h9; exact ⟨by omega, .inl (by omega)⟩) hw hd (by have := hF.1; omega) (by have := hF.1; omega) 0).mono (fun e w' h => ISP.tail hx h))
  rw [isL_one] at HIS
  have hN2 := is1_nrm T k2 i2 c2 t2 b2 cs2 ks
  generalize is1 T k2 i2 c2 t2 b2 cs2 ks = r at *
  clear hT hF hRow hwf hdeep hd9 hSf his h1 h2 hB hve hE hpt hP hOK
  unfold F53 at *
  go_enter Tryz.func52, Tryz.ntmps52
  go_upto_region 1 with (fail)
  change Code.wp _ _ _ _ (ww w wa wn wc (.func (Fn.func 53) #[] #[.pointer (some ⟨tb, 0, none⟩), .pointer (some ⟨fb, 0, none⟩), .pointer (some ⟨tt, 0, none⟩)]))
  generalize ww w wa wn wc (.func (Fn.func 53) #[] #[.pointer (some ⟨tb, 0, none⟩), .pointer (some ⟨fb, 0, none⟩), .pointer (some ⟨tt, 0, none⟩)]) = w1 at *
  rcases hN with rfl | rfl | rfl
  · go_wp2_with (go_at_call 53; (with_reducible refine HC.out.mono ?_); intro e2 w2 hI; obtain ⟨rfl, hK2, hF2⟩ := ISP.t hI; have HK2 := Lib.hid ((Kept.of' (N := N1 fb) HB.out).tail hK2 (fun _ _ h => h)); have HF2 := Lib.hid hF2; have HW2 := Lib.hid (HH.out.1.keep hK2 (fun e => by have h1 := HH.out.2.2; unfold N1 at e; omega)); have HD2 := Lib.hid (HH.out.2.1.keep hK2 (fun e => by have h1 := HH.out.2.2; unfold N1 at e; omega)); clear hK2 hF2 hI)
    go_ret
    exact ⟨HK2.out, .inl ⟨by rw [HIS.out]; rfl, rfl, HF2.out⟩⟩
  rotate_left
  · go_wp2_with (go_at_call 53; (with_reducible refine HC.out.mono ?_); intro e2 w2 hI; obtain ⟨rfl, hK2⟩ := ISP.p hI; have HK2 := Lib.hid ((Kept.of' (N := N1 fb) HB.out).tail hK2 (fun _ _ h => h)); clear hK2 hI)
    exact ⟨rfl, HK2.out, .inr (.inr ⟨by rw [HIS.out]; rfl, rfl⟩)⟩
  · go_upto_region 9 with (go_at_call 53; (with_reducible refine HC.out.mono ?_); intro e2 w2 hI; obtain ⟨rfl, hK2, hF2⟩ := ISP.f hI; have HK2 := Lib.hid ((Kept.of' (N := N1 fb) HB.out).tail hK2 (fun _ _ h => h)); have HF2 := Lib.hid hF2; have HW2 := Lib.hid (HH.out.1.keep hK2 (fun e => by have h1 := HH.out.2.2; unfold N1 at e; omega)); have HD2 := Lib.hid (HH.out.2.1.keep hK2 (fun e => by have h1 := HH.out.2.2; unfold N1 at e; omega)); clear hK2 hF2 hI)
    rcases hN2 with rfl | rfl | rfl
    · go_wp2_with (first
        | (go_at_call 149; (with_reducible refine (HCU.out _ HK2.out).mono ?_); rintro e3 w3 ⟨v3, rfl, hv3, hB3⟩; have HV3 := Lib.hid hv3; have HB3 := Lib.hid hB3; clear hv3 hB3)
        | (go_at_call 83; (with_reducible refine (HCN.out _ _ (HK2.out.calm HB3.out) (HF2.out.below HB3.out) HV3.out (HW2.out.below HB3.out) (HD2.out.below HB3.out)).mono ?_); intro e4 w4 hI; obtain ⟨rfl, hK4, hF4⟩ := ISP.t hI; have HK4 := Lib.hid hK4; have HF4 := Lib.hid hF4; clear hI hK4 hF4))
      go_ret
      exact ⟨HK4.out, .inl ⟨by rw [HIS.out]; rfl, rfl, HF4.out⟩⟩
    · go_wp2_with (first
        | (go_at_call 149; (with_reducible refine (HCU.out _ HK2.out).mono ?_); rintro e3 w3 ⟨v3, rfl, hv3, hB3⟩; have HV3 := Lib.hid hv3; have HB3 := Lib.hid hB3; clear hv3 hB3)
        | (go_at_call 83; (with_reducible refine (HCN.out _ _ (HK2.out.calm HB3.out) (HF2.out.below HB3.out) HV3.out (HW2.out.below HB3.out) (HD2.out.below HB3.out)).mono ?_); intro e4 w4 hI; obtain ⟨rfl, hK4, hF4⟩ := ISP.f hI; have HK4 := Lib.hid hK4; have HF4 := Lib.hid hF4; clear hI hK4 hF4))
      go_ret
      exact ⟨HK4.out, .inr (.inl ⟨by rw [HIS.out]; rfl, rfl, HF4.out⟩)⟩
    · go_wp2_with (first
        | (go_at_call 149; (with_reducible refine (HCU.out _ HK2.out).mono ?_); rintro e3 w3 ⟨v3, rfl, hv3, hB3⟩; have HV3 := Lib.hid hv3; have HB3 := Lib.hid hB3; clear hv3 hB3)
        | (go_at_call 83; (with_reducible refine (HCN.out _ _ (HK2.out.calm HB3.out) (HF2.out.below HB3.out) HV3.out (HW2.out.below HB3.out) (HD2.out.below HB3.out)).mono ?_); intro e4 w4 hI; obtain ⟨rfl, hK4⟩ := ISP.p hI; have HK4 := Lib.hid hK4; clear hI hK4))
      exact ⟨rfl, HK4.out, .inr (.inr ⟨by rw [HIS.out]; rfl, rfl⟩)⟩
set_option maxRecDepth 100000 in
set_option maxHeartbeats 8000000 in
theorem wk8n {a0 : Addr} {S : Nat → Prop} {fb tb tt : Nat} {T : Et} {i c : Int} {t : Bs} {b : Dt} {cs : List Int} {v : Value} : WK1 a0 S fb tb tt T ⟨8, i, c, t, b, cs, .nil⟩ v := by
  intro wa wn wc ws w hT hF hv hRow hwf hdeep
  show Calls Tryz.prog 52 _ w (ISP a0 (is1 T 8 i c t b cs (.nil)) fb w)
  have hd9 : wn + ehi (.nil) ≤ 1000 := by
    rcases hdeep with h | h
    · exact h
    · exact absurd (show (8 : Int) = 0 from h) (by decide)
  obtain ⟨h1, h2, hB⟩ := ww_facts w wa wn wc (F53 tb fb tt)
  have hSf : ∀ x, S x → ¬ N1 fb x := fun x hx e => (hT.2.2.2.2.2.2 x hx).2 e
  have hN := isHead_nrm T 8 i c t b cs
  have HC := Lib.hid (is53 (e := ⟨8, i, c, t, b, cs, .nil⟩) (hT.below hB) (hv.below hB hSf) rfl (hF.below hB) (by show (1 : Int) ≤ 8; omega) (by show (8 : Int) ≤ 10; omega) (fun e => by cases e) (fun e => by cases e) (.slice wa wn wc))
  have his := is1_pos (T := T) (k := 8) (i := i) (c := c) (t := t) (b := b) (cs := cs) (kids := .nil) (by omega)
  generalize is1 T 8 i c t b cs (.nil) = res at *
  dsimp only at HC
  generalize isHead T 8 i c t b cs = h at *
  have HIS := Lib.hid his
  have HB := Lib.hid hB
  have HH := Lib.hid (And.intro h1 (And.intro h2 hF.1))
  have hmf : ∀ (fn : Fn) (first cap : Array Value) (w : World), (Instr.makeFunc fn first cap).run Tryz.prog w = .ok (.func fn first cap) w := fun _ _ _ _ => rfl
  have x0 := h1.cell 0 rfl
  have y0 := h2.cell 0 rfl
  have hta := fun v w => ta108_4 v w
  have htb := fun v w => ta108_5 v w
  have HV := Lib.hid hv
  obtain ⟨bl, bn, bc, cl, cn, cc, l, n, cap, q, p, hve, hE, _, hpt⟩ := hv
  have hve2 : v = .iface 108 (.pointer (some ⟨p, 0, none⟩)) := hve
  subst hve2
  have hP := hpt (.inr (.inr (.inr (.inl rfl))))
  have hmu := fun v w => m108u v w
  have hn0 : 0 = n := hE.2.2.len
  subst hn0
  have HCU := Lib.hid (fun (wx : World) (hx : Kept (N1 fb) w wx) => unw187n (hP.1.keep hx (fun e => hP.2 e)))
  have HCN := Lib.hid (fun (wx : World) (hx : Kept (N1 fb) w wx) (hf : Blk wx fb [.bool false]) (hw : Blk wx w.heap.size [.slice wa wn wc]) (hd : Blk wx (w.heap.size + 1) [F53 tb fb tt]) =>
    (next83g (walk0 (i := 0) (c := 0) (t := []) (b := Dt.zero) (cs := []) (kids := .nil)) (hT.keep hx) hf nilEV (hRow.keep hx (fun x hx' e => hwf x hx' e)) ⟨by have h9 := hd9; simp only [ehi] at h9; omega, .inr rfl⟩ hw hd (by have := hF.1; omega) (by have := hF.1; omega) 0).mono (fun e w' h => ISP.tail hx h))
  have hz0 : is1 T 0 0 0 [] Dt.zero [] .nil = (false, 0) := by unfold is1; rw [if_pos rfl]
  rw [hz0] at HCN
  clear hT hF hRow hwf hdeep hd9 hSf his h1 h2 hB hve hE hpt hP
  unfold F53 at *
  go_enter Tryz.func52, Tryz.ntmps52
  go_upto_region 1 with (fail)
  change Code.wp _ _ _ _ (ww w wa wn wc (.func (Fn.func 53) #[] #[.pointer (some ⟨tb, 0, none⟩), .pointer (some ⟨fb, 0, none⟩), .pointer (some ⟨tt, 0, none⟩)]))
  generalize ww w wa wn wc (.func (Fn.func 53) #[] #[.pointer (some ⟨tb, 0, none⟩), .pointer (some ⟨fb, 0, none⟩), .pointer (some ⟨tt, 0, none⟩)]) = w1 at *
  rcases hN with rfl | rfl | rfl
  · go_wp2_with (go_at_call 53; (with_reducible refine HC.out.mono ?_); intro e2 w2 hI; obtain ⟨rfl, hK2, hF2⟩ := ISP.t hI; have HK2 := Lib.hid ((Kept.of' (N := N1 fb) HB.out).tail hK2 (fun _ _ h => h)); have HF2 := Lib.hid hF2; have HW2 := Lib.hid (HH.out.1.keep hK2 (fun e => by have h1 := HH.out.2.2; unfold N1 at e; omega)); have HD2 := Lib.hid (HH.out.2.1.keep hK2 (fun e => by have h1 := HH.out.2.2; unfold N1 at e; omega)); clear hK2 hF2 hI)
    go_ret
    exact ⟨HK2.out, .inl ⟨by rw [HIS.out]; rfl, rfl, HF2.out⟩⟩
  rotate_left
  · go_wp2_with (go_at_call 53; (with_reducible refine HC.out.mono ?_); intro e2 w2 hI; obtain ⟨rfl, hK2⟩ := ISP.p hI; have HK2 := Lib.hid ((Kept.of' (N := N1 fb) HB.out).tail hK2 (fun _ _ h => h)); clear hK2 hI)
    exact ⟨rfl, HK2.out, .inr (.inr ⟨by rw [HIS.out]; rfl, rfl⟩)⟩
  · go_upto_region 9 with (go_at_call 53; (with_reducible refine HC.out.mono ?_); intro e2 w2 hI; obtain ⟨rfl, hK2, hF2⟩ := ISP.f hI; have HK2 := Lib.hid ((Kept.of' (N := N1 fb) HB.out).tail hK2 (fun _ _ h => h)); have HF2 := Lib.hid hF2; have HW2 := Lib.hid (HH.out.1.keep hK2 (fun e => by have h1 := HH.out.2.2; unfold N1 at e; omega)); have HD2 := Lib.hid (HH.out.2.1.keep hK2 (fun e => by have h1 := HH.out.2.2; unfold N1 at e; omega)); clear hK2 hF2 hI)
    go_wp2_with (first
      | (go_at_call 187; (with_reducible refine (HCU.out _ HK2.out).mono ?_); rintro e3 w3 ⟨rfl, rfl⟩)
      | (go_at_call 83; (with_reducible refine (HCN.out _ HK2.out HF2.out HW2.out HD2.out).mono ?_); intro e4 w4 hI; obtain ⟨rfl, hK4, hF4⟩ := ISP.f hI; have HK4 := Lib.hid hK4; have HF4 := Lib.hid hF4; clear hI hK4 hF4))
    go_ret
    exact ⟨HK4.out, .inr (.inl ⟨by rw [HIS.out]; rfl, rfl, HF4.out⟩)⟩
set_option maxRecDepth 100000 in
set_option maxHeartbeats 8000000 in
theorem wk8 {a0 : Addr} {S : Nat → Prop} {fb tb tt : Nat} {T : Et} {i c : Int} {t : Bs} {b : Dt} {cs : List Int} {v : Value} {k2 i2 c2 : Int} {t2 : Bs} {b2 : Dt} {cs2 : List Int} {ks : Eo} (hOK : ∀ v2, WK1 a0 S fb tb tt T ⟨k2, i2, c2, t2, b2, cs2, ks⟩ v2) : WK1 a0 S fb tb tt T ⟨8, i, c, t, b, cs, .cons k2 i2 c2 t2 b2 cs2 ks .nil⟩ v := by
  intro wa wn wc ws w hT hF hv hRow hwf hdeep
  show Calls Tryz.prog 52 _ w (ISP a0 (is1 T 8 i c t b cs (.cons k2 i2 c2 t2 b2 cs2 ks .nil)) fb w)
  have hd9 : wn + ehi (.cons k2 i2 c2 t2 b2 cs2 ks .nil) ≤ 1000 := by
    rcases hdeep with h | h
    · exact h
    · exact absurd (show (8 : Int) = 0 from h) (by decide)
  obtain ⟨h1, h2, hB⟩ := ww_facts w wa wn wc (F53 tb fb tt)
  have hSf : ∀ x, S x → ¬ N1 fb x := fun x hx e => (hT.2.2.2.2.2.2 x hx).2 e
  have hN := isHead_nrm T 8 i c t b cs
  have HC := Lib.hid (is53 (e := ⟨8, i, c, t, b, cs, .cons k2 i2 c2 t2 b2 cs2 ks .nil⟩) (hT.below hB) (hv.below hB hSf) rfl (hF.below hB) (by show (1 : Int) ≤ 8; omega) (by show (8 : Int) ≤ 10; omega) (fun e => by cases e) (fun e => by cases e) (.slice wa wn wc))
  have his := is1_pos (T := T) (k := 8) (i := i) (c := c) (t := t) (b := b) (cs := cs) (kids := .cons k2 i2 c2 t2 b2 cs2 ks .nil) (by omega)
  generalize is1 T 8 i c t b cs (.cons k2 i2 c2 t2 b2 cs2 ks .nil) = res at *
  dsimp only at HC
  generalize isHead T 8 i c t b cs = h at *
  have HIS := Lib.hid his
  have HB := Lib.hid hB
  have HH := Lib.hid (And.intro h1 (And.intro h2 hF.1))
  have hmf : ∀ (fn : Fn) (first cap : Array Value) (w : World), (Instr.makeFunc fn first cap).run Tryz.prog w = .ok (.func fn first cap) w := fun _ _ _ _ => rfl
  have x0 := h1.cell 0 rfl
  have y0 := h2.cell 0 rfl
  have hta := fun v w => ta108_4 v w
  have htb := fun v w => ta108_5 v w
  have HV := Lib.hid hv
  obtain ⟨bl, bn, bc, cl, cn, cc, l, n, cap, q, p, hve, hE, _, hpt⟩ := hv
  have hve2 : v = .iface 108 (.pointer (some ⟨p, 0, none⟩)) := hve
  subst hve2
  have hP := hpt (.inr (.inr (.inr (.inl rfl))))
  have hmu := fun v w => m108u v w
  have HCU := Lib.hid (fun (wx : World) (hx : Kept (N1 fb) w wx) => unw187 (S := S) (N := N1 fb) (hP.1.keep hx (fun e => hP.2 e)) ((hE.same (fun x hx' hl => hx.block x hl (fun e => hSf x hx' e)) (fun x hx' _ => hx')).2.2) (fun x e => by unfold N1 at e; rw [e]; exact Nat.lt_of_lt_of_le hF.1 hx.size))
  have HCN := Lib.hid (fun (wx : World) (v2 : Value) (hx : Kept (N1 fb) w wx) (hf : Blk wx fb [.bool false]) (hvv : EVAt S (N1 fb) wx ⟨k2, i2, c2, t2, b2, cs2, ks⟩ v2) (hw : Blk wx w.heap.size [.slice wa wn wc]) (hd : Blk wx (w.heap.size + 1) [F53 tb fb tt]) =>
    (next83g (hOK v2) (hT.keep hx) hf hvv (hRow.keep hx (fun x hx' e => hwf x hx' e)) (by have h9 := hd9; simp only [ehi] at h9; exact ⟨by omega, .inl (by omega)⟩) hw hd (by have := hF.1; omega) (by have := hF.1; omega) 0).mono (fun e w' h => ISP.tail hx h))
  rw [isL_one] at HIS
  have hN2 := is1_nrm T k2 i2 c2 t2 b2 cs2 ks
  generalize is1 T k2 i2 c2 t2 b2 cs2 ks = r at *
  clear hT hF hRow hwf hdeep hd9 hSf his h1 h2 hB hve hE hpt hP hOK
  unfold F53 at *
  go_enter Tryz.func52, Tryz.ntmps52
  go_upto_region 1 with (fail)
  change Code.wp _ _ _ _ (ww w wa wn wc (.func (Fn.func 53) #[] #[.pointer (some ⟨tb, 0, none⟩), .pointer (some ⟨fb, 0, none⟩), .pointer (some ⟨tt, 0, none⟩)]))
  generalize ww w wa wn wc (.func (Fn.func 53) #[] #[.pointer (some ⟨tb, 0, none⟩), .pointer (some ⟨fb, 0, none⟩), .pointer (some ⟨tt, 0, none⟩)]) = w1 at *
  rcases hN with rfl | rfl | rfl
  · go_wp2_with (go_at_call 53; (with_reducible refine HC.out.mono ?_); intro e2 w2 hI; obtain ⟨rfl, hK2, hF2⟩ := ISP.t hI; have HK2 := Lib.hid ((Kept.of' (N := N1 fb) HB.out).tail hK2 (fun _ _ h => h)); have HF2 := Lib.hid hF2; have HW2 := Lib.hid (HH.out.1.keep hK2 (fun e => by have h1 := HH.out.2.2; unfold N1 at e; omega)); have HD2 := Lib.hid (HH.out.2.1.keep hK2 (fun e => by have h1 := HH.out.2.2; unfold N1 at e; omega)); clear hK2 hF2 hI)
    go_ret
    exact ⟨HK2.out, .inl ⟨by rw [HIS.out]; rfl, rfl, HF2.out⟩⟩
  rotate_left
  · go_wp2_with (go_at_call 53; (with_reducible refine HC.out.mono ?_); intro e2 w2 hI; obtain ⟨rfl, hK2⟩ := ISP.p hI; have HK2 := Lib.hid ((Kept.of' (N := N1 fb) HB.out).tail hK2 (fun _ _ h => h)); clear hK2 hI)
    exact ⟨rfl, HK2.out, .inr (.inr ⟨by rw [HIS.out]; rfl, rfl⟩)⟩
  · go_upto_region 9 with (go_at_call 53; (with_reducible refine HC.out.mono ?_); intro e2 w2 hI; obtain ⟨rfl, hK2, hF2⟩ := ISP.f hI; have HK2 := Lib.hid ((Kept.of' (N := N1 fb) HB.out).tail hK2 (fun _ _ h => h)); have HF2 := Lib.hid hF2; have HW2 := Lib.hid (HH.out.1.keep hK2 (fun e => by have h1 := HH.out.2.2; unfold N1 at e; omega)); have HD2 := Lib.hid (HH.out.2.1.keep hK2 (fun e => by have h1 := HH.out.2.2; unfold N1 at e; omega)); clear hK2 hF2 hI)
    rcases hN2 with rfl | rfl | rfl
    · go_wp2_with (first
        | (go_at_call 187; (with_reducible refine (HCU.out _ HK2.out).mono ?_); rintro e3 w3 ⟨v3, rfl, hv3, hB3⟩; have HV3 := Lib.hid hv3; have HB3 := Lib.hid hB3; clear hv3 hB3)
        | (go_at_call 83; (with_reducible refine (HCN.out _ _ (HK2.out.calm HB3.out) (HF2.out.below HB3.out) HV3.out (HW2.out.below HB3.out) (HD2.out.below HB3.out)).mono ?_); intro e4 w4 hI; obtain ⟨rfl, hK4, hF4⟩ := ISP.t hI; have HK4 := Lib.hid hK4; have HF4 := Lib.hid hF4; clear hI hK4 hF4))
      go_ret
      exact ⟨HK4.out, .inl ⟨by rw [HIS.out]; rfl, rfl, HF4.out⟩⟩
    · go_wp2_with (first
        | (go_at_call 187; (with_reducible refine (HCU.out _ HK2.out).mono ?_); rintro e3 w3 ⟨v3, rfl, hv3, hB3⟩; have HV3 := Lib.hid hv3; have HB3 := Lib.hid hB3; clear hv3 hB3)
        | (go_at_call 83; (with_reducible refine (HCN.out _ _ (HK2.out.calm HB3.out) (HF2.out.below HB3.out) HV3.out (HW2.out.below HB3.out) (HD2.out.below HB3.out)).mono ?_); intro e4 w4 hI; obtain ⟨rfl, hK4, hF4⟩ := ISP.f hI; have HK4 := Lib.hid hK4; have HF4 := Lib.hid hF4; clear hI hK4 hF4))
      go_ret
      exact ⟨HK4.out, .inr (.inl ⟨by rw [HIS.out]; rfl, rfl, HF4.out⟩)⟩
    · go_wp2_with (first
        | (go_at_call 187; (with_reducible refine (HCU.out _ HK2.out).mono ?_); rintro e3 w3 ⟨v3, rfl, hv3, hB3⟩; have HV3 := Lib.hid hv3; have HB3 := Lib.hid hB3; clear hv3 hB3)
        | (go_at_call 83; (with_reducible refine (HCN.out _ _ (HK2.out.calm HB3.out) (HF2.out.below HB3.out) HV3.out (HW2.out.below HB3.out) (HD2.out.below HB3.out)).mono ?_); intro e4 w4 hI; obtain ⟨rfl, hK4⟩ := ISP.p hI; have HK4 := Lib.hid hK4; clear hI hK4))
      exact ⟨rfl, HK4.out, .inr (.inr ⟨by rw [HIS.out]; rfl, rfl⟩)⟩
end Go.Proofs.YtbldidiibkcelaaGreatDoor
