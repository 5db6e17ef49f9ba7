/-
  The walk by the visitor f76 (walk). Not a statement of the seat.
-/
import Derived.Test.YtbldidiibkcelaaGreatDoorPEVw64
namespace Go.Proofs.YtbldidiibkcelaaGreatDoor
open Go.RowKit

def F76 (cb ob : Nat) : Value := .func (Fn.func 76) #[] #[.pointer (some ⟨cb, 0, none⟩), .pointer (some ⟨ob, 0, none⟩)]
section
variable {σ : Type} {st : σ → World → Prop} {N : σ → Nat → Prop} {step : σ → Et → List Int → σ × Bool}
/-- what is asked of the visitor -/
def CL76 (st : σ → World → Prop) (N : σ → Nat → Prop) (step : σ → Et → List Int → σ × Bool) (S : Nat → Prop) (cb ob : Nat) : Prop := ∀ (e : Et) (v : Value) (s : σ) (way : List Int) (wa : Option Addr) (wn wc : Nat) (w : World),
  st s w → (∀ x, S x → x < w.heap.size ∧ ¬ N s x) → EVAt S (N s) w e v → rightE e = true → e.k ≠ 0 → Row 0 w 1 wa wn wc (I8 way) → (∀ x, blockOf wa = some x → ¬ N s x) → wn ≤ 1000 →
  Calls Tryz.prog 76 #[v, .slice wa wn wc, .pointer (some ⟨cb, 0, none⟩), .pointer (some ⟨ob, 0, none⟩)] w (VP st N (step s e way) s w)
set_option maxRecDepth 100000 in
set_option maxHeartbeats 4000000 in
theorem wv76_0 (hO : VOK st N) {S : Nat → Prop} {cb ob : Nat} {i c : Int} {t : Bs} {b : Dt} {cs : List Int} {kids : Eo} : WV1 st N step S (F76 cb ob) ⟨0, i, c, t, b, cs, kids⟩ .nilIface := by
  intro s way wa wn wc w hs _ _ _ _ _
  obtain ⟨_, _, hB⟩ := ww_facts w wa wn wc (F76 cb ob)
  have hz : vis1 step s ⟨0, i, c, t, b, cs, kids⟩ way = (s, true) := by unfold vis1; rw [if_pos rfl]
  show Calls Tryz.prog 52 _ w (VP st N (vis1 step s ⟨0, i, c, t, b, cs, kids⟩ way) s w)
  rw [hz]
  have HS := Lib.hid (hO.1 _ _ _ hs hB)
  have HB := Lib.hid hB
  clear hs hB hz
  unfold F76 at *
  go_enter Tryz.func52, Tryz.ntmps52
  go_upto_region 1 with (fail)
  change Code.wp _ _ _ _ (ww w wa wn wc (.func (Fn.func 76) #[] #[.pointer (some ⟨cb, 0, none⟩), .pointer (some ⟨ob, 0, none⟩)]))
  generalize ww w wa wn wc (.func (Fn.func 76) #[] #[.pointer (some ⟨cb, 0, none⟩), .pointer (some ⟨ob, 0, none⟩)]) = w1 at *
  go_wp2_with fail
  go_ret
  exact ⟨rfl, HS.out, Kept.of' HB.out, fun _ h => .inl h⟩
set_option maxRecDepth 100000 in
set_option maxHeartbeats 16000000 in
theorem wv76_1 (hO : VOK st N) {S : Nat → Prop} {cb ob : Nat} (hCL : CL76 st N step S cb ob) {i c : Int} {t : Bs} {b : Dt} {cs : List Int} {v : Value} (hr : rightE ⟨1, i, c, t, b, cs, .nil⟩ = true) : WV1 st N step S (F76 cb ob) ⟨1, i, c, t, b, cs, .nil⟩ v := by
  intro s way wa wn wc w hs hS hv hRow hwf hdeep
  have hd9 : wn + ehi (.nil) ≤ 1000 := by
    rcases hdeep with h | h
    · exact h
    · exact absurd (show (1 : Int) = 0 from h) (by decide)
  obtain ⟨h1, h2, hB⟩ := ww_facts w wa wn wc (F76 cb ob)
  have hlt := fun x => hO.2 s w x hs
  have hs1 := hO.1 _ _ _ hs hB
  have hS1 : ∀ x, S x → x < (ww w wa wn wc (F76 cb ob)).heap.size ∧ ¬ N s x := fun x hx => ⟨Nat.lt_of_lt_of_le (hS x hx).1 hB.size, (hS x hx).2⟩
  have hv1 := hv.below hB (fun x hx => (hS x hx).2)
  have hRow1 := hRow.below hB
  have HC := Lib.hid (hCL ⟨1, i, c, t, b, cs, .nil⟩ v s way wa wn wc (ww w wa wn wc (F76 cb ob)) hs1 hS1 hv1 hr (show (1 : Int) ≠ 0 by decide) hRow1 hwf (by omega))
  show Calls Tryz.prog 52 _ w (VP st N (vis1 step s ⟨1, i, c, t, b, cs, .nil⟩ way) s w)
  have hvis := vis_pos (step := step) (s := s) (e := ⟨1, i, c, t, b, cs, .nil⟩) (way := way) (show (1 : Int) ≠ 0 by decide)
  generalize vis1 step s ⟨1, i, c, t, b, cs, .nil⟩ way = res at *
  have HSTP : ∃ r, r = step s ⟨1, i, c, t, b, cs, .nil⟩ way := ⟨_, rfl⟩
  obtain ⟨r, hrs⟩ := HSTP
  rw [← hrs] at hvis HC
  obtain ⟨s1, b1⟩ := r
  have HVIS := Lib.hid hvis
  have HB := Lib.hid hB
  have HH := Lib.hid (And.intro h1 (And.intro h2 (And.intro (fun e => absurd (hlt _ e) (by omega) : ¬ N s w.heap.size) (fun e => absurd (hlt _ e) (by omega) : ¬ N s (w.heap.size + 1)))))
  have HR1 := Lib.hid (And.intro hRow1 hwf)
  have HV1 := Lib.hid (And.intro hv1 hS1)
  have hmf : ∀ (fn : Fn) (first cap : Array Value) (w : World), (Instr.makeFunc fn first cap).run Tryz.prog w = .ok (.func fn first cap) w := fun _ _ _ _ => rfl
  have x0 := h1.cell 0 rfl
  have y0 := h2.cell 0 rfl
  have hta := fun v w => ta101_4 v w
  have htb := fun v w => ta101_5 v w
  obtain ⟨bl, bn, bc, cl, cn, cc, l, n, cap, q, p, hve, hE, _, hpt⟩ := hv1
  have hve2 : v = .iface 101 (.agg #[.int .i64 c, .string ⟨t.toArray⟩]) := hve
  subst hve2
  clear hs hS hv hRow hwf hdeep hd9 hlt hs1 hS1 hRow1 hvis hrs h1 h2 hB hve hE hpt hr hCL
  unfold F76 at *
  go_enter Tryz.func52, Tryz.ntmps52
  go_upto_region 1 with (fail)
  change Code.wp _ _ _ _ (ww w wa wn wc (.func (Fn.func 76) #[] #[.pointer (some ⟨cb, 0, none⟩), .pointer (some ⟨ob, 0, none⟩)]))
  generalize hww : ww w wa wn wc (.func (Fn.func 76) #[] #[.pointer (some ⟨cb, 0, none⟩), .pointer (some ⟨ob, 0, none⟩)]) = w1 at *
  cases b1
  · go_wp2_with (go_at_call 76; (with_reducible refine HC.out.mono ?_); intro e2 w2 hI; obtain ⟨rfl, hK2⟩ := hI; have HK2 := Lib.hid hK2; have HW2 := Lib.hid (hK2.blk HH.out.1 HH.out.2.2.1); have HD2 := Lib.hid (hK2.blk HH.out.2.1 HH.out.2.2.2); have HN1 := Lib.hid (hK2.notN HH.out.1.1 HH.out.2.2.1); have HN2 := Lib.hid (hK2.notN HH.out.2.1.1 HH.out.2.2.2); clear hK2)
    go_ret
    exact ⟨by rw [HVIS.out]; rfl, by rw [HVIS.out]; exact VK.ahead HB.out HK2.out⟩
  · go_wp2_with (go_at_call 76; (with_reducible refine HC.out.mono ?_); intro e2 w2 hI; obtain ⟨rfl, hK2⟩ := hI; have HK2 := Lib.hid hK2; have HW2 := Lib.hid (hK2.blk HH.out.1 HH.out.2.2.1); have HD2 := Lib.hid (hK2.blk HH.out.2.1 HH.out.2.2.2); have HN1 := Lib.hid (hK2.notN HH.out.1.1 HH.out.2.2.1); have HN2 := Lib.hid (hK2.notN HH.out.2.1.1 HH.out.2.2.2); clear hK2)
    go_ret
    exact ⟨by rw [HVIS.out]; rfl, by rw [HVIS.out]; exact VK.ahead HB.out HK2.out⟩
set_option maxRecDepth 100000 in
set_option maxHeartbeats 16000000 in
theorem wv76_2 (hO : VOK st N) {S : Nat → Prop} {cb ob : Nat} (hCL : CL76 st N step S cb ob) {i c : Int} {t : Bs} {b : Dt} {cs : List Int} {v : Value} (hr : rightE ⟨2, i, c, t, b, cs, .nil⟩ = true) : WV1 st N step S (F76 cb ob) ⟨2, i, c, t, b, cs, .nil⟩ v := by
  intro s way wa wn wc w hs hS hv hRow hwf hdeep
  have hd9 : wn + ehi (.nil) ≤ 1000 := by
    rcases hdeep with h | h
    · exact h
    · exact absurd (show (2 : Int) = 0 from h) (by decide)
  obtain ⟨h1, h2, hB⟩ := ww_facts w wa wn wc (F76 cb ob)
  have hlt := fun x => hO.2 s w x hs
  have hs1 := hO.1 _ _ _ hs hB
  have hS1 : ∀ x, S x → x < (ww w wa wn wc (F76 cb ob)).heap.size ∧ ¬ N s x := fun x hx => ⟨Nat.lt_of_lt_of_le (hS x hx).1 hB.size, (hS x hx).2⟩
  have hv1 := hv.below hB (fun x hx => (hS x hx).2)
  have hRow1 := hRow.below hB
  have HC := Lib.hid (hCL ⟨2, i, c, t, b, cs, .nil⟩ v s way wa wn wc (ww w wa wn wc (F76 cb ob)) hs1 hS1 hv1 hr (show (2 : Int) ≠ 0 by decide) hRow1 hwf (by omega))
  show Calls Tryz.prog 52 _ w (VP st N (vis1 step s ⟨2, i, c, t, b, cs, .nil⟩ way) s w)
  have hvis := vis_pos (step := step) (s := s) (e := ⟨2, i, c, t, b, cs, .nil⟩) (way := way) (show (2 : Int) ≠ 0 by decide)
  generalize vis1 step s ⟨2, i, c, t, b, cs, .nil⟩ way = res at *
  have HSTP : ∃ r, r = step s ⟨2, i, c, t, b, cs, .nil⟩ way := ⟨_, rfl⟩
  obtain ⟨r, hrs⟩ := HSTP
  rw [← hrs] at hvis HC
  obtain ⟨s1, b1⟩ := r
  have HVIS := Lib.hid hvis
  have HB := Lib.hid hB
  have HH := Lib.hid (And.intro h1 (And.intro h2 (And.intro (fun e => absurd (hlt _ e) (by omega) : ¬ N s w.heap.size) (fun e => absurd (hlt _ e) (by omega) : ¬ N s (w.heap.size + 1)))))
  have HR1 := Lib.hid (And.intro hRow1 hwf)
  have HV1 := Lib.hid (And.intro hv1 hS1)
  have hmf : ∀ (fn : Fn) (first cap : Array Value) (w : World), (Instr.makeFunc fn first cap).run Tryz.prog w = .ok (.func fn first cap) w := fun _ _ _ _ => rfl
  have x0 := h1.cell 0 rfl
  have y0 := h2.cell 0 rfl
  have hta := fun v w => ta89_4 v w
  have htb := fun v w => ta89_5 v w
  obtain ⟨bl, bn, bc, cl, cn, cc, l, n, cap, q, p, hve, hE, _, hpt⟩ := hv1
  have hve2 : v = .iface 89 (.pointer (some ⟨p, 0, none⟩)) := hve
  subst hve2
  clear hs hS hv hRow hwf hdeep hd9 hlt hs1 hS1 hRow1 hvis hrs h1 h2 hB hve hE hpt hr hCL
  unfold F76 at *
  go_enter Tryz.func52, Tryz.ntmps52
  go_upto_region 1 with (fail)
  change Code.wp _ _ _ _ (ww w wa wn wc (.func (Fn.func 76) #[] #[.pointer (some ⟨cb, 0, none⟩), .pointer (some ⟨ob, 0, none⟩)]))
  generalize hww : ww w wa wn wc (.func (Fn.func 76) #[] #[.pointer (some ⟨cb, 0, none⟩), .pointer (some ⟨ob, 0, none⟩)]) = w1 at *
  cases b1
  · go_wp2_with (go_at_call 76; (with_reducible refine HC.out.mono ?_); intro e2 w2 hI; obtain ⟨rfl, hK2⟩ := hI; have HK2 := Lib.hid hK2; have HW2 := Lib.hid (hK2.blk HH.out.1 HH.out.2.2.1); have HD2 := Lib.hid (hK2.blk HH.out.2.1 HH.out.2.2.2); have HN1 := Lib.hid (hK2.notN HH.out.1.1 HH.out.2.2.1); have HN2 := Lib.hid (hK2.notN HH.out.2.1.1 HH.out.2.2.2); clear hK2)
    go_ret
    exact ⟨by rw [HVIS.out]; rfl, by rw [HVIS.out]; exact VK.ahead HB.out HK2.out⟩
  · go_wp2_with (go_at_call 76; (with_reducible refine HC.out.mono ?_); intro e2 w2 hI; obtain ⟨rfl, hK2⟩ := hI; have HK2 := Lib.hid hK2; have HW2 := Lib.hid (hK2.blk HH.out.1 HH.out.2.2.1); have HD2 := Lib.hid (hK2.blk HH.out.2.1 HH.out.2.2.2); have HN1 := Lib.hid (hK2.notN HH.out.1.1 HH.out.2.2.1); have HN2 := Lib.hid (hK2.notN HH.out.2.1.1 HH.out.2.2.2); clear hK2)
    go_ret
    exact ⟨by rw [HVIS.out]; rfl, by rw [HVIS.out]; exact VK.ahead HB.out HK2.out⟩
set_option maxRecDepth 100000 in
set_option maxHeartbeats 16000000 in
theorem wv76_3 (hO : VOK st N) {S : Nat → Prop} {cb ob : Nat} (hCL : CL76 st N step S cb ob) {i c : Int} {t : Bs} {b : Dt} {cs : List Int} {v : Value} {k2 i2 c2 : Int} {t2 : Bs} {b2 : Dt} {cs2 : List Int} {ks : Eo} (hr : rightE ⟨3, i, c, t, b, cs, .cons k2 i2 c2 t2 b2 cs2 ks .nil⟩ = true) (hOK : ∀ v2, WV1 st N step S (F76 cb ob) ⟨k2, i2, c2, t2, b2, cs2, ks⟩ v2) : WV1 st N step S (F76 cb ob) ⟨3, i, c, t, b, cs, .cons k2 i2 c2 t2 b2 cs2 ks .nil⟩ v := by
  intro s way wa wn wc w hs hS hv hRow hwf hdeep
  have hd9 : wn + ehi (.cons k2 i2 c2 t2 b2 cs2 ks .nil) ≤ 1000 := by
    rcases hdeep with h | h
    · exact h
    · exact absurd (show (3 : Int) = 0 from h) (by decide)
  obtain ⟨h1, h2, hB⟩ := ww_facts w wa wn wc (F76 cb ob)
  have hlt := fun x => hO.2 s w x hs
  have hs1 := hO.1 _ _ _ hs hB
  have hS1 : ∀ x, S x → x < (ww w wa wn wc (F76 cb ob)).heap.size ∧ ¬ N s x := fun x hx => ⟨Nat.lt_of_lt_of_le (hS x hx).1 hB.size, (hS x hx).2⟩
  have hv1 := hv.below hB (fun x hx => (hS x hx).2)
  have hRow1 := hRow.below hB
  have HC := Lib.hid (hCL ⟨3, i, c, t, b, cs, .cons k2 i2 c2 t2 b2 cs2 ks .nil⟩ v s way wa wn wc (ww w wa wn wc (F76 cb ob)) hs1 hS1 hv1 hr (show (3 : Int) ≠ 0 by decide) hRow1 hwf (by omega))
  show Calls Tryz.prog 52 _ w (VP st N (vis1 step s ⟨3, i, c, t, b, cs, .cons k2 i2 c2 t2 b2 cs2 ks .nil⟩ way) s w)
  have hvis := vis_pos (step := step) (s := s) (e := ⟨3, i, c, t, b, cs, .cons k2 i2 c2 t2 b2 cs2 ks .nil⟩) (way := way) (show (3 : Int) ≠ 0 by decide)
  generalize vis1 step s ⟨3, i, c, t, b, cs, .cons k2 i2 c2 t2 b2 cs2 ks .nil⟩ way = res at *
  have HSTP : ∃ r, r = step s ⟨3, i, c, t, b, cs, .cons k2 i2 c2 t2 b2 cs2 ks .nil⟩ way := ⟨_, rfl⟩
  obtain ⟨r, hrs⟩ := HSTP
  rw [← hrs] at hvis HC
  obtain ⟨s1, b1⟩ := r
  have HVIS := Lib.hid hvis
  have HB := Lib.hid hB
  have HH := Lib.hid (And.intro h1 (And.intro h2 (And.intro (fun e => absurd (hlt _ e) (by omega) : ¬ N s w.heap.size) (fun e => absurd (hlt _ e) (by omega) : ¬ N s (w.heap.size + 1)))))
  have HR1 := Lib.hid (And.intro hRow1 hwf)
  have HV1 := Lib.hid (And.intro hv1 hS1)
  have hmf : ∀ (fn : Fn) (first cap : Array Value) (w : World), (Instr.makeFunc fn first cap).run Tryz.prog w = .ok (.func fn first cap) w := fun _ _ _ _ => rfl
  have x0 := h1.cell 0 rfl
  have y0 := h2.cell 0 rfl
  have hta := fun v w => ta102_4 v w
  have htb := fun v w => ta102_5 v w
  have hmu := fun v w => m102u v w
  obtain ⟨bl, bn, bc, cl, cn, cc, l, n, cap, q, p, hve, hE, _, hpt⟩ := hv1
  have hve2 : v = .iface 102 (.pointer (some ⟨p, 0, none⟩)) := hve
  subst hve2
  have hP := hpt (.inr (.inl rfl))
  have HCU := Lib.hid (fun (wx : World) (hx : VK st N s s1 (ww w wa wn wc (F76 cb ob)) wx) => unw149 (S := S) (N := N s1) (hx.blk hP.1 hP.2) ((hE.same (fun x hx' _ => hx.2.1.block x (hS1 x hx').1 (hS1 x hx').2) (fun x hx' _ => hx')).2.2) (fun x e => hO.2 s1 wx x hx.1 e))
  have HCN := Lib.hid (fun (wx : World) (v2 : Value) (hst : st s1 wx) (hSN : ∀ x, S x → x < wx.heap.size ∧ ¬ N s1 x) (hvv : EVAt S (N s1) wx ⟨k2, i2, c2, t2, b2, cs2, ks⟩ v2) (hrw : Row 0 wx 1 wa wn wc (I8 way)) (hw : Blk wx w.heap.size [.slice wa wn wc]) (hd : Blk wx (w.heap.size + 1) [(F76 cb ob)]) (hn1 : ¬ N s1 w.heap.size) (hn2 : ¬ N s1 (w.heap.size + 1)) =>
    next83v hO (hOK v2) hst hSN hvv hrw (by have h9 := hd9; simp only [ehi] at h9; exact ⟨by omega, .inl (by omega)⟩) hw hd hn1 hn2 0)
  rw [visL_one] at HVIS
  generalize vis1 step s1 ⟨k2, i2, c2, t2, b2, cs2, ks⟩ (way ++ [((0 : Nat) : Int)]) = r2 at *
  clear hs hS hv hRow hwf hdeep hd9 hlt hs1 hS1 hRow1 hvis hrs h1 h2 hB hve hE hpt hr hCL hP hOK
  unfold F76 at *
  go_enter Tryz.func52, Tryz.ntmps52
  go_upto_region 1 with (fail)
  change Code.wp _ _ _ _ (ww w wa wn wc (.func (Fn.func 76) #[] #[.pointer (some ⟨cb, 0, none⟩), .pointer (some ⟨ob, 0, none⟩)]))
  generalize hww : ww w wa wn wc (.func (Fn.func 76) #[] #[.pointer (some ⟨cb, 0, none⟩), .pointer (some ⟨ob, 0, none⟩)]) = w1 at *
  cases b1
  · go_wp2_with (go_at_call 76; (with_reducible refine HC.out.mono ?_); intro e2 w2 hI; obtain ⟨rfl, hK2⟩ := hI; have HK2 := Lib.hid hK2; have HW2 := Lib.hid (hK2.blk HH.out.1 HH.out.2.2.1); have HD2 := Lib.hid (hK2.blk HH.out.2.1 HH.out.2.2.2); have HN1 := Lib.hid (hK2.notN HH.out.1.1 HH.out.2.2.1); have HN2 := Lib.hid (hK2.notN HH.out.2.1.1 HH.out.2.2.2); clear hK2)
    go_ret
    exact ⟨by rw [HVIS.out]; rfl, by rw [HVIS.out]; exact VK.ahead HB.out HK2.out⟩
  · go_upto_region 9 with (go_at_call 76; (with_reducible refine HC.out.mono ?_); intro e2 w2 hI; obtain ⟨rfl, hK2⟩ := hI; have HK2 := Lib.hid hK2; have HW2 := Lib.hid (hK2.blk HH.out.1 HH.out.2.2.1); have HD2 := Lib.hid (hK2.blk HH.out.2.1 HH.out.2.2.2); have HN1 := Lib.hid (hK2.notN HH.out.1.1 HH.out.2.2.1); have HN2 := Lib.hid (hK2.notN HH.out.2.1.1 HH.out.2.2.2); clear hK2)
    go_wp2_with (first
      | (go_at_call 149; (with_reducible refine (HCU.out _ HK2.out).mono ?_); rintro e3 w3 ⟨v3, rfl, hv3, hB3⟩; have HV3 := Lib.hid hv3; have HB3 := Lib.hid hB3; have HK3 := Lib.hid (VK.calm hO HK2.out hB3); clear hv3 hB3)
      | (go_at_call 83; (with_reducible refine (HCN.out _ _ HK3.out.s' (SN.vk HK3.out HV1.out.2) HV3.out (HR1.out.1.keep HK3.out.k (fun x hx => HR1.out.2 x hx)) (HW2.out.below HB3.out) (HD2.out.below HB3.out) HN1.out HN2.out).mono ?_); intro e4 w4 hI; obtain ⟨rfl, hK4⟩ := hI; have HK4 := Lib.hid hK4; clear hK4))
    go_ret
    exact ⟨by rw [HVIS.out]; rfl, by rw [HVIS.out]; exact VK.ahead HB.out (VK.trans HK3.out HK4.out)⟩
set_option maxRecDepth 100000 in
set_option maxHeartbeats 16000000 in
theorem wv76_4 (hO : VOK st N) {S : Nat → Prop} {cb ob : Nat} (hCL : CL76 st N step S cb ob) {i c : Int} {t : Bs} {b : Dt} {cs : List Int} {v : Value} {kids : Eo} (hr : rightE ⟨4, i, c, t, b, cs, kids⟩ = true) (hall : kids.All (WVOK st N step S (F76 cb ob))) (hrr : rrightL true kids = true) (hm : kids.len ≤ 4096) : WV1 st N step S (F76 cb ob) ⟨4, i, c, t, b, cs, kids⟩ v := by
  intro s way wa wn wc w hs hS hv hRow hwf hdeep
  have hd9 : wn + ehi (kids) ≤ 1000 := by
    rcases hdeep with h | h
    · exact h
    · exact absurd (show (4 : Int) = 0 from h) (by decide)
  obtain ⟨h1, h2, hB⟩ := ww_facts w wa wn wc (F76 cb ob)
  have hlt := fun x => hO.2 s w x hs
  have hs1 := hO.1 _ _ _ hs hB
  have hS1 : ∀ x, S x → x < (ww w wa wn wc (F76 cb ob)).heap.size ∧ ¬ N s x := fun x hx => ⟨Nat.lt_of_lt_of_le (hS x hx).1 hB.size, (hS x hx).2⟩
  have hv1 := hv.below hB (fun x hx => (hS x hx).2)
  have hRow1 := hRow.below hB
  have HC := Lib.hid (hCL ⟨4, i, c, t, b, cs, kids⟩ v s way wa wn wc (ww w wa wn wc (F76 cb ob)) hs1 hS1 hv1 hr (show (4 : Int) ≠ 0 by decide) hRow1 hwf (by omega))
  show Calls Tryz.prog 52 _ w (VP st N (vis1 step s ⟨4, i, c, t, b, cs, kids⟩ way) s w)
  have hvis := vis_pos (step := step) (s := s) (e := ⟨4, i, c, t, b, cs, kids⟩) (way := way) (show (4 : Int) ≠ 0 by decide)
  generalize vis1 step s ⟨4, i, c, t, b, cs, kids⟩ way = res at *
  have HSTP : ∃ r, r = step s ⟨4, i, c, t, b, cs, kids⟩ way := ⟨_, rfl⟩
  obtain ⟨r, hrs⟩ := HSTP
  rw [← hrs] at hvis HC
  obtain ⟨s1, b1⟩ := r
  have HVIS := Lib.hid hvis
  have HB := Lib.hid hB
  have HH := Lib.hid (And.intro h1 (And.intro h2 (And.intro (fun e => absurd (hlt _ e) (by omega) : ¬ N s w.heap.size) (fun e => absurd (hlt _ e) (by omega) : ¬ N s (w.heap.size + 1)))))
  have HR1 := Lib.hid (And.intro hRow1 hwf)
  have HV1 := Lib.hid (And.intro hv1 hS1)
  have hmf : ∀ (fn : Fn) (first cap : Array Value) (w : World), (Instr.makeFunc fn first cap).run Tryz.prog w = .ok (.func fn first cap) w := fun _ _ _ _ => rfl
  have x0 := h1.cell 0 rfl
  have y0 := h2.cell 0 rfl
  have hta := fun v w => ta103_4 v w
  have htb := fun v w => ta103_5 v w
  have hmu := fun v w => m103u v w
  obtain ⟨bl, bn, bc, cl, cn, cc, l, n, cap, q, p, hve, hE, _, hpt⟩ := hv1
  have hve2 : v = .iface 103 (.pointer (some ⟨p, 0, none⟩)) := hve
  subst hve2
  have hP := hpt (.inr (.inr (.inl rfl)))
  have hnl : kids.len = n := hE.2.2.len
  have HCU := Lib.hid (fun (wx : World) (hx : VK st N s s1 (ww w wa wn wc (F76 cb ob)) wx) => unw153 (S := S) (N := N s1) (kids := kids) (hx.blk hP.1 hP.2) ((hE.same (fun x hx' _ => hx.2.1.block x (hS1 x hx').1 (hS1 x hx').2) (fun x hx' _ => hx')).2.2) (SN.vk hx hS1) (fun x e => hO.2 s1 wx x hx.1 e) (by omega))
  have HCN := Lib.hid (fun (k2 i2 c2 : Int) (t2 : Bs) (b2 : Dt) (cs2 : List Int) (ks : Eo) (v2 : Value) (s2 : σ) (wx : World) (hok : WV1 st N step S (F76 cb ob) ⟨k2, i2, c2, t2, b2, cs2, ks⟩ v2) (hst : st s2 wx) (hSN : ∀ x, S x → x < wx.heap.size ∧ ¬ N s2 x) (hvv : EVAt S (N s2) wx ⟨k2, i2, c2, t2, b2, cs2, ks⟩ v2) (hrw : Row 0 wx 1 wa wn wc (I8 way)) (hw : Blk wx w.heap.size [.slice wa wn wc]) (hd : Blk wx (w.heap.size + 1) [(F76 cb ob)]) (hn1 : ¬ N s2 w.heap.size) (hn2 : ¬ N s2 (w.heap.size + 1)) (hb : wn + 1 + ehi ks ≤ 1000) (j : Int) =>
    next83v hO hok hst hSN hvv hrw ⟨by omega, .inl hb⟩ hw hd hn1 hn2 j)
  have HALL := Lib.hid (And.intro hall (And.intro hrr (And.intro hm hd9)))
  clear hs hS hv hRow hwf hdeep hd9 hlt hs1 hS1 hRow1 hvis hrs h1 h2 hB hve hE hpt hr hCL hP hall hrr hm hnl
  unfold F76 at *
  go_enter Tryz.func52, Tryz.ntmps52
  go_upto_region 1 with (fail)
  change Code.wp _ _ _ _ (ww w wa wn wc (.func (Fn.func 76) #[] #[.pointer (some ⟨cb, 0, none⟩), .pointer (some ⟨ob, 0, none⟩)]))
  generalize hww : ww w wa wn wc (.func (Fn.func 76) #[] #[.pointer (some ⟨cb, 0, none⟩), .pointer (some ⟨ob, 0, none⟩)]) = w1 at *
  cases b1
  · go_wp2_with (go_at_call 76; (with_reducible refine HC.out.mono ?_); intro e2 w2 hI; obtain ⟨rfl, hK2⟩ := hI; have HK2 := Lib.hid hK2; have HW2 := Lib.hid (hK2.blk HH.out.1 HH.out.2.2.1); have HD2 := Lib.hid (hK2.blk HH.out.2.1 HH.out.2.2.2); have HN1 := Lib.hid (hK2.notN HH.out.1.1 HH.out.2.2.1); have HN2 := Lib.hid (hK2.notN HH.out.2.1.1 HH.out.2.2.2); clear hK2)
    go_ret
    exact ⟨by rw [HVIS.out]; rfl, by rw [HVIS.out]; exact VK.ahead HB.out HK2.out⟩
  · go_upto_region 12 with (go_at_call 76; (with_reducible refine HC.out.mono ?_); intro e2 w2 hI; obtain ⟨rfl, hK2⟩ := hI; have HK2 := Lib.hid hK2; have HW2 := Lib.hid (hK2.blk HH.out.1 HH.out.2.2.1); have HD2 := Lib.hid (hK2.blk HH.out.2.1 HH.out.2.2.2); have HN1 := Lib.hid (hK2.notN HH.out.1.1 HH.out.2.2.1); have HN2 := Lib.hid (hK2.notN HH.out.2.1.1 HH.out.2.2.2); clear hK2)
    have HR0 := Lib.hid (show visL step kids s1 way 0 = res by rw [HVIS.out]; rfl)
    generalize hFV : (Value.func (Fn.func 76) #[] #[.pointer (some ⟨cb, 0, none⟩), .pointer (some ⟨ob, 0, none⟩)]) = FV at *
    go_upto_block 1 with (go_at_call 153; (with_reducible refine (HCU.out _ HK2.out).mono ?_); rintro e3 w3 ⟨a3, c3, vs, rfl, hR3, hV3, hB3⟩; have HK3 := Lib.hid (VK.calm hO HK2.out hB3); have HW3 := Lib.hid (HW2.out.below hB3); have HD3 := Lib.hid (HD2.out.below hB3); have HV3 := Lib.hid hV3; have HR3 := Lib.hid (hR3.mono (Nat.zero_le _)); have HA3 := Lib.hid (show ∀ x, blockOf a3 = some x → ¬ N s1 x from fun x hx e => by have h9 := (hR3.lt x hx).1; have h8 := hO.2 _ _ _ HK2.out.s' e; omega); clear hR3 hV3 hB3)
    have HM := Lib.hid (show kids.len ≤ 4096 from HALL.out.2.2.1)
    go_wp2_with fail
    go_loopw [34] (fun t34 wr => WmV st N step S w.heap.size FV kids s way (.slice wa wn wc) a3 kids.len c3 vs w1 res t34 wr) (fun t34 _ => kids.len - (intOf t34).toNat)
    case atStart => exact ⟨.nil, kids, s1, rfl, rfl, HV3.out, HK3.out, HW3.out, HD3.out, HN1.out, HN2.out, HR3.out, HA3.out, HR0.out⟩
    case round =>
      obtain ⟨dn, rest, s2, rfl, hk, hEV, hKr, hWr, hDr, hn1, hn2, hRr, hAr, hq⟩ := hrel
      have hlen : kids.len = dn.len + rest.len := by rw [hk, Eo.len_app]
      cases rest with
      | nil =>
        have hj : ¬ (dn.len : Int) < (kids.len : Int) := by have : Eo.len .nil = 0 := rfl; omega
        have HQ := Lib.hid hq
        have HKr := Lib.hid hKr
        clear hk hEV hKr hWr hDr hRr hAr hq hlen hn1 hn2
        generalize kids.len = m at *
        go_wp2_with fail
        go_ret
        exact ⟨by rw [← HQ.out]; rfl, by rw [← HQ.out]; exact VK.ahead HB.out HKr.out⟩
      | cons k2 i2 c2 t2 b2 cs2 ks r2 =>
        have hlr : (Eo.cons k2 i2 c2 t2 b2 cs2 ks r2).len = r2.len + 1 := rfl
        have hjn : dn.len < kids.len := by omega
        have hj : (dn.len : Int) < (kids.len : Int) := by omega
        obtain ⟨v2, vs2, hvs, hv2, hEV2⟩ := hEV
        have hget : vs[dn.len]? = some v2 := by
          have h := congrArg (fun l => l[0]?) hvs
          simpa [List.getElem?_drop] using h
        have hd2 : vs.drop (dn.len + 1) = vs2 := by
          rw [← List.drop_drop, hvs]
          rfl
        obtain ⟨bb, off, rfl, hltb, hcell⟩ : ∃ b off, a3 = some ⟨b, off, none⟩ ∧ b < wr.heap.size ∧ wr.cell? ⟨b, off + dn.len, none⟩ = some v2 := by
          obtain ⟨b, off, ha, hb, hc⟩ := hRr.rd.at (k := dn.len) hjn
          have h := hc 0 (by omega)
          exact ⟨b, off, ha, hb, by rw [Nat.mul_one, Nat.add_zero] at h; rw [h]; exact hget⟩
        have hOK : WV1 st N step S FV ⟨k2, i2, c2, t2, b2, cs2, ks⟩ v2 := by
          have hal := HALL.out.1
          rw [hk] at hal
          refine (Eo.All.split dn hal).1 k2 i2 c2 t2 b2 cs2 v2 ?_
          have h := HALL.out.2.1
          rw [hk] at h
          have h3 := rrightL_app true dn h
          rw [rrightL, Bool.and_eq_true, Bool.and_eq_true] at h3
          exact h3.1.2
        have hbd : wn + 1 + ehi ks ≤ 1000 := by
          have h := HALL.out.2.2.2
          rw [hk] at h
          have h4 := ehi_app dn (g := .cons k2 i2 c2 t2 b2 cs2 ks r2)
          simp only [ehi] at h4
          omega
        have hSr := SN.vk hKr HV1.out.2
        have HC2 := Lib.hid (HCN.out k2 i2 c2 t2 b2 cs2 ks v2 s2 wr hOK hKr.s' hSr hv2 (HR1.out.1.keep hKr.k (fun x hx => HR1.out.2 x hx)) hWr hDr hn1 hn2 hbd (dn.len : Nat))
        rw [visL_cons] at hq
        generalize vis1 step s2 ⟨k2, i2, c2, t2, b2, cs2, ks⟩ (way ++ [((dn.len : Nat) : Int)]) = r3 at *
        obtain ⟨s3, b3⟩ := r3
        have HRR := Lib.hid (And.intro hKr (And.intro hWr (And.intro hDr (And.intro hRr (And.intro hEV2 (And.intro hn1 (And.intro hn2 (And.intro hAr hSr))))))))
        have HQ := Lib.hid hq
        have HKK := Lib.hid hk
        have HD2' := Lib.hid hd2
        have HJ := Lib.hid hjn
        have x9 := hWr.cell 0 rfl
        have hsz := HM.out
        clear hEV2 hKr hWr hDr hRr hAr hq hk hlen hlr hvs hv2 hget hd2 hOK hbd hltb hn1 hn2 hSr
        generalize hjj : dn.len = j at *
        have HJJ := Lib.hid hjj
        clear hjj
        cases b3
        · go_wp2_with (go_at_call 83; (with_reducible refine HC2.out.mono ?_); intro e4 w4 hI; obtain ⟨rfl, hK4⟩ := hI; have HK4 := Lib.hid hK4; clear hK4)
          go_ret
          exact ⟨by rw [← HQ.out]; rfl, by rw [← HQ.out]; exact VK.ahead HB.out (VK.trans HRR.out.1 HK4.out)⟩
        · go_wp2_with (go_at_call 83; (with_reducible refine HC2.out.mono ?_); intro e4 w4 hI; obtain ⟨rfl, hK4⟩ := hI; have HK4 := Lib.hid hK4; clear hK4)
          go_roundw
          case rel =>
            obtain ⟨hKr, hWr, hDr, hRr, hEV2, hn1, hn2, hAr, hSr⟩ := HRR.out
            have hl2 : (dn.app (.cons k2 i2 c2 t2 b2 cs2 ks .nil)).len = j + 1 := by rw [Eo.len_app, HJJ.out, show (Eo.cons k2 i2 c2 t2 b2 cs2 ks .nil).len = 1 from rfl]
            refine ⟨dn.app (.cons k2 i2 c2 t2 b2 cs2 ks .nil), r2, s3, ?_, ?_, ?_, VK.trans hKr HK4.out, HK4.out.blk hWr hn1, HK4.out.blk hDr hn2, HK4.out.notN hWr.1 hn1, HK4.out.notN hDr.1 hn2, hRr.keep HK4.out.k (fun x hx => hAr x hx), fun x hx => HK4.out.notN (hRr.lt x hx).2 (hAr x hx), by rw [hl2, ← HQ.out]; rfl⟩
            · rw [hl2]; go_num
            · rw [Eo.app_assoc]; exact HKK.out
            · rw [hl2, HD2'.out]; exact EVs.map (fun e u hu => hu.vk HK4.out hSr) _ hEV2
          case measure => simp [intOf]; have := HJ.out; omega
set_option maxRecDepth 100000 in
set_option maxHeartbeats 16000000 in
theorem wv76_5 (hO : VOK st N) {S : Nat → Prop} {cb ob : Nat} (hCL : CL76 st N step S cb ob) {i c : Int} {t : Bs} {b : Dt} {cs : List Int} {v : Value} (hr : rightE ⟨5, i, c, t, b, cs, .nil⟩ = true) : WV1 st N step S (F76 cb ob) ⟨5, i, c, t, b, cs, .nil⟩ v := by
  intro s way wa wn wc w hs hS hv hRow hwf hdeep
  have hd9 : wn + ehi (.nil) ≤ 1000 := by
    rcases hdeep with h | h
    · exact h
    · exact absurd (show (5 : Int) = 0 from h) (by decide)
  obtain ⟨h1, h2, hB⟩ := ww_facts w wa wn wc (F76 cb ob)
  have hlt := fun x => hO.2 s w x hs
  have hs1 := hO.1 _ _ _ hs hB
  have hS1 : ∀ x, S x → x < (ww w wa wn wc (F76 cb ob)).heap.size ∧ ¬ N s x := fun x hx => ⟨Nat.lt_of_lt_of_le (hS x hx).1 hB.size, (hS x hx).2⟩
  have hv1 := hv.below hB (fun x hx => (hS x hx).2)
  have hRow1 := hRow.below hB
  have HC := Lib.hid (hCL ⟨5, i, c, t, b, cs, .nil⟩ v s way wa wn wc (ww w wa wn wc (F76 cb ob)) hs1 hS1 hv1 hr (show (5 : Int) ≠ 0 by decide) hRow1 hwf (by omega))
  show Calls Tryz.prog 52 _ w (VP st N (vis1 step s ⟨5, i, c, t, b, cs, .nil⟩ way) s w)
  have hvis := vis_pos (step := step) (s := s) (e := ⟨5, i, c, t, b, cs, .nil⟩) (way := way) (show (5 : Int) ≠ 0 by decide)
  generalize vis1 step s ⟨5, i, c, t, b, cs, .nil⟩ way = res at *
  have HSTP : ∃ r, r = step s ⟨5, i, c, t, b, cs, .nil⟩ way := ⟨_, rfl⟩
  obtain ⟨r, hrs⟩ := HSTP
  rw [← hrs] at hvis HC
  obtain ⟨s1, b1⟩ := r
  have HVIS := Lib.hid hvis
  have HB := Lib.hid hB
  have HH := Lib.hid (And.intro h1 (And.intro h2 (And.intro (fun e => absurd (hlt _ e) (by omega) : ¬ N s w.heap.size) (fun e => absurd (hlt _ e) (by omega) : ¬ N s (w.heap.size + 1)))))
  have HR1 := Lib.hid (And.intro hRow1 hwf)
  have HV1 := Lib.hid (And.intro hv1 hS1)
  have hmf : ∀ (fn : Fn) (first cap : Array Value) (w : World), (Instr.makeFunc fn first cap).run Tryz.prog w = .ok (.func fn first cap) w := fun _ _ _ _ => rfl
  have x0 := h1.cell 0 rfl
  have y0 := h2.cell 0 rfl
  have hta := fun v w => ta106_4 v w
  have htb := fun v w => ta106_5 v w
  obtain ⟨bl, bn, bc, cl, cn, cc, l, n, cap, q, p, hve, hE, _, hpt⟩ := hv1
  have hve2 : v = .iface 106 (.agg #[.pointer (some ⟨q, 0, none⟩)]) := hve
  subst hve2
  clear hs hS hv hRow hwf hdeep hd9 hlt hs1 hS1 hRow1 hvis hrs h1 h2 hB hve hE hpt hr hCL
  unfold F76 at *
  go_enter Tryz.func52, Tryz.ntmps52
  go_upto_region 1 with (fail)
  change Code.wp _ _ _ _ (ww w wa wn wc (.func (Fn.func 76) #[] #[.pointer (some ⟨cb, 0, none⟩), .pointer (some ⟨ob, 0, none⟩)]))
  generalize hww : ww w wa wn wc (.func (Fn.func 76) #[] #[.pointer (some ⟨cb, 0, none⟩), .pointer (some ⟨ob, 0, none⟩)]) = w1 at *
  cases b1
  · go_wp2_with (go_at_call 76; (with_reducible refine HC.out.mono ?_); intro e2 w2 hI; obtain ⟨rfl, hK2⟩ := hI; have HK2 := Lib.hid hK2; have HW2 := Lib.hid (hK2.blk HH.out.1 HH.out.2.2.1); have HD2 := Lib.hid (hK2.blk HH.out.2.1 HH.out.2.2.2); have HN1 := Lib.hid (hK2.notN HH.out.1.1 HH.out.2.2.1); have HN2 := Lib.hid (hK2.notN HH.out.2.1.1 HH.out.2.2.2); clear hK2)
    go_ret
    exact ⟨by rw [HVIS.out]; rfl, by rw [HVIS.out]; exact VK.ahead HB.out HK2.out⟩
  · go_wp2_with (go_at_call 76; (with_reducible refine HC.out.mono ?_); intro e2 w2 hI; obtain ⟨rfl, hK2⟩ := hI; have HK2 := Lib.hid hK2; have HW2 := Lib.hid (hK2.blk HH.out.1 HH.out.2.2.1); have HD2 := Lib.hid (hK2.blk HH.out.2.1 HH.out.2.2.2); have HN1 := Lib.hid (hK2.notN HH.out.1.1 HH.out.2.2.1); have HN2 := Lib.hid (hK2.notN HH.out.2.1.1 HH.out.2.2.2); clear hK2)
    go_ret
    exact ⟨by rw [HVIS.out]; rfl, by rw [HVIS.out]; exact VK.ahead HB.out HK2.out⟩
set_option maxRecDepth 100000 in
set_option maxHeartbeats 16000000 in
theorem wv76_6 (hO : VOK st N) {S : Nat → Prop} {cb ob : Nat} (hCL : CL76 st N step S cb ob) {i c : Int} {t : Bs} {b : Dt} {cs : List Int} {v : Value} (hr : rightE ⟨6, i, c, t, b, cs, .nil⟩ = true) : WV1 st N step S (F76 cb ob) ⟨6, i, c, t, b, cs, .nil⟩ v := by
  intro s way wa wn wc w hs hS hv hRow hwf hdeep
  have hd9 : wn + ehi (.nil) ≤ 1000 := by
    rcases hdeep with h | h
    · exact h
    · exact absurd (show (6 : Int) = 0 from h) (by decide)
  obtain ⟨h1, h2, hB⟩ := ww_facts w wa wn wc (F76 cb ob)
  have hlt := fun x => hO.2 s w x hs
  have hs1 := hO.1 _ _ _ hs hB
  have hS1 : ∀ x, S x → x < (ww w wa wn wc (F76 cb ob)).heap.size ∧ ¬ N s x := fun x hx => ⟨Nat.lt_of_lt_of_le (hS x hx).1 hB.size, (hS x hx).2⟩
  have hv1 := hv.below hB (fun x hx => (hS x hx).2)
  have hRow1 := hRow.below hB
  have HC := Lib.hid (hCL ⟨6, i, c, t, b, cs, .nil⟩ v s way wa wn wc (ww w wa wn wc (F76 cb ob)) hs1 hS1 hv1 hr (show (6 : Int) ≠ 0 by decide) hRow1 hwf (by omega))
  show Calls Tryz.prog 52 _ w (VP st N (vis1 step s ⟨6, i, c, t, b, cs, .nil⟩ way) s w)
  have hvis := vis_pos (step := step) (s := s) (e := ⟨6, i, c, t, b, cs, .nil⟩) (way := way) (show (6 : Int) ≠ 0 by decide)
  generalize vis1 step s ⟨6, i, c, t, b, cs, .nil⟩ way = res at *
  have HSTP : ∃ r, r = step s ⟨6, i, c, t, b, cs, .nil⟩ way := ⟨_, rfl⟩
  obtain ⟨r, hrs⟩ := HSTP
  rw [← hrs] at hvis HC
  obtain ⟨s1, b1⟩ := r
  have HVIS := Lib.hid hvis
  have HB := Lib.hid hB
  have HH := Lib.hid (And.intro h1 (And.intro h2 (And.intro (fun e => absurd (hlt _ e) (by omega) : ¬ N s w.heap.size) (fun e => absurd (hlt _ e) (by omega) : ¬ N s (w.heap.size + 1)))))
  have HR1 := Lib.hid (And.intro hRow1 hwf)
  have HV1 := Lib.hid (And.intro hv1 hS1)
  have hmf : ∀ (fn : Fn) (first cap : Array Value) (w : World), (Instr.makeFunc fn first cap).run Tryz.prog w = .ok (.func fn first cap) w := fun _ _ _ _ => rfl
  have x0 := h1.cell 0 rfl
  have y0 := h2.cell 0 rfl
  have hta := fun v w => ta107_4 v w
  have htb := fun v w => ta107_5 v w
  obtain ⟨bl, bn, bc, cl, cn, cc, l, n, cap, q, p, hve, hE, _, hpt⟩ := hv1
  have hve2 : v = .iface 107 (.slice cl cn cc) := hve
  subst hve2
  clear hs hS hv hRow hwf hdeep hd9 hlt hs1 hS1 hRow1 hvis hrs h1 h2 hB hve hE hpt hr hCL
  unfold F76 at *
  go_enter Tryz.func52, Tryz.ntmps52
  go_upto_region 1 with (fail)
  change Code.wp _ _ _ _ (ww w wa wn wc (.func (Fn.func 76) #[] #[.pointer (some ⟨cb, 0, none⟩), .pointer (some ⟨ob, 0, none⟩)]))
  generalize hww : ww w wa wn wc (.func (Fn.func 76) #[] #[.pointer (some ⟨cb, 0, none⟩), .pointer (some ⟨ob, 0, none⟩)]) = w1 at *
  cases b1
  · go_wp2_with (go_at_call 76; (with_reducible refine HC.out.mono ?_); intro e2 w2 hI; obtain ⟨rfl, hK2⟩ := hI; have HK2 := Lib.hid hK2; have HW2 := Lib.hid (hK2.blk HH.out.1 HH.out.2.2.1); have HD2 := Lib.hid (hK2.blk HH.out.2.1 HH.out.2.2.2); have HN1 := Lib.hid (hK2.notN HH.out.1.1 HH.out.2.2.1); have HN2 := Lib.hid (hK2.notN HH.out.2.1.1 HH.out.2.2.2); clear hK2)
    go_ret
    exact ⟨by rw [HVIS.out]; rfl, by rw [HVIS.out]; exact VK.ahead HB.out HK2.out⟩
  · go_wp2_with (go_at_call 76; (with_reducible refine HC.out.mono ?_); intro e2 w2 hI; obtain ⟨rfl, hK2⟩ := hI; have HK2 := Lib.hid hK2; have HW2 := Lib.hid (hK2.blk HH.out.1 HH.out.2.2.1); have HD2 := Lib.hid (hK2.blk HH.out.2.1 HH.out.2.2.2); have HN1 := Lib.hid (hK2.notN HH.out.1.1 HH.out.2.2.1); have HN2 := Lib.hid (hK2.notN HH.out.2.1.1 HH.out.2.2.2); clear hK2)
    go_ret
    exact ⟨by rw [HVIS.out]; rfl, by rw [HVIS.out]; exact VK.ahead HB.out HK2.out⟩
set_option maxRecDepth 100000 in
set_option maxHeartbeats 16000000 in
theorem wv76_7 (hO : VOK st N) {S : Nat → Prop} {cb ob : Nat} (hCL : CL76 st N step S cb ob) {i c : Int} {t : Bs} {b : Dt} {cs : List Int} {v : Value} (hr : rightE ⟨7, i, c, t, b, cs, .nil⟩ = true) : WV1 st N step S (F76 cb ob) ⟨7, i, c, t, b, cs, .nil⟩ v := by
  intro s way wa wn wc w hs hS hv hRow hwf hdeep
  have hd9 : wn + ehi (.nil) ≤ 1000 := by
    rcases hdeep with h | h
    · exact h
    · exact absurd (show (7 : Int) = 0 from h) (by decide)
  obtain ⟨h1, h2, hB⟩ := ww_facts w wa wn wc (F76 cb ob)
  have hlt := fun x => hO.2 s w x hs
  have hs1 := hO.1 _ _ _ hs hB
  have hS1 : ∀ x, S x → x < (ww w wa wn wc (F76 cb ob)).heap.size ∧ ¬ N s x := fun x hx => ⟨Nat.lt_of_lt_of_le (hS x hx).1 hB.size, (hS x hx).2⟩
  have hv1 := hv.below hB (fun x hx => (hS x hx).2)
  have hRow1 := hRow.below hB
  have HC := Lib.hid (hCL ⟨7, i, c, t, b, cs, .nil⟩ v s way wa wn wc (ww w wa wn wc (F76 cb ob)) hs1 hS1 hv1 hr (show (7 : Int) ≠ 0 by decide) hRow1 hwf (by omega))
  show Calls Tryz.prog 52 _ w (VP st N (vis1 step s ⟨7, i, c, t, b, cs, .nil⟩ way) s w)
  have hvis := vis_pos (step := step) (s := s) (e := ⟨7, i, c, t, b, cs, .nil⟩) (way := way) (show (7 : Int) ≠ 0 by decide)
  generalize vis1 step s ⟨7, i, c, t, b, cs, .nil⟩ way = res at *
  have HSTP : ∃ r, r = step s ⟨7, i, c, t, b, cs, .nil⟩ way := ⟨_, rfl⟩
  obtain ⟨r, hrs⟩ := HSTP
  rw [← hrs] at hvis HC
  obtain ⟨s1, b1⟩ := r
  have HVIS := Lib.hid hvis
  have HB := Lib.hid hB
  have HH := Lib.hid (And.intro h1 (And.intro h2 (And.intro (fun e => absurd (hlt _ e) (by omega) : ¬ N s w.heap.size) (fun e => absurd (hlt _ e) (by omega) : ¬ N s (w.heap.size + 1)))))
  have HR1 := Lib.hid (And.intro hRow1 hwf)
  have HV1 := Lib.hid (And.intro hv1 hS1)
  have hmf : ∀ (fn : Fn) (first cap : Array Value) (w : World), (Instr.makeFunc fn first cap).run Tryz.prog w = .ok (.func fn first cap) w := fun _ _ _ _ => rfl
  have x0 := h1.cell 0 rfl
  have y0 := h2.cell 0 rfl
  have hta := fun v w => ta89_4 v w
  have htb := fun v w => ta89_5 v w
  obtain ⟨bl, bn, bc, cl, cn, cc, l, n, cap, q, p, hve, hE, _, hpt⟩ := hv1
  have hve2 : v = .iface 89 (.pointer none) := hve
  subst hve2
  clear hs hS hv hRow hwf hdeep hd9 hlt hs1 hS1 hRow1 hvis hrs h1 h2 hB hve hE hpt hr hCL
  unfold F76 at *
  go_enter Tryz.func52, Tryz.ntmps52
  go_upto_region 1 with (fail)
  change Code.wp _ _ _ _ (ww w wa wn wc (.func (Fn.func 76) #[] #[.pointer (some ⟨cb, 0, none⟩), .pointer (some ⟨ob, 0, none⟩)]))
  generalize hww : ww w wa wn wc (.func (Fn.func 76) #[] #[.pointer (some ⟨cb, 0, none⟩), .pointer (some ⟨ob, 0, none⟩)]) = w1 at *
  cases b1
  · go_wp2_with (go_at_call 76; (with_reducible refine HC.out.mono ?_); intro e2 w2 hI; obtain ⟨rfl, hK2⟩ := hI; have HK2 := Lib.hid hK2; have HW2 := Lib.hid (hK2.blk HH.out.1 HH.out.2.2.1); have HD2 := Lib.hid (hK2.blk HH.out.2.1 HH.out.2.2.2); have HN1 := Lib.hid (hK2.notN HH.out.1.1 HH.out.2.2.1); have HN2 := Lib.hid (hK2.notN HH.out.2.1.1 HH.out.2.2.2); clear hK2)
    go_ret
    exact ⟨by rw [HVIS.out]; rfl, by rw [HVIS.out]; exact VK.ahead HB.out HK2.out⟩
  · go_wp2_with (go_at_call 76; (with_reducible refine HC.out.mono ?_); intro e2 w2 hI; obtain ⟨rfl, hK2⟩ := hI; have HK2 := Lib.hid hK2; have HW2 := Lib.hid (hK2.blk HH.out.1 HH.out.2.2.1); have HD2 := Lib.hid (hK2.blk HH.out.2.1 HH.out.2.2.2); have HN1 := Lib.hid (hK2.notN HH.out.1.1 HH.out.2.2.1); have HN2 := Lib.hid (hK2.notN HH.out.2.1.1 HH.out.2.2.2); clear hK2)
    go_ret
    exact ⟨by rw [HVIS.out]; rfl, by rw [HVIS.out]; exact VK.ahead HB.out HK2.out⟩
set_option maxRecDepth 100000 in
set_option maxHeartbeats 16000000 in
theorem wv76_8 (hO : VOK st N) {S : Nat → Prop} {cb ob : Nat} (hCL : CL76 st N step S cb ob) {i c : Int} {t : Bs} {b : Dt} {cs : List Int} {v : Value} {k2 i2 c2 : Int} {t2 : Bs} {b2 : Dt} {cs2 : List Int} {ks : Eo} (hr : rightE ⟨8, i, c, t, b, cs, .cons k2 i2 c2 t2 b2 cs2 ks .nil⟩ = true) (hOK : ∀ v2, WV1 st N step S (F76 cb ob) ⟨k2, i2, c2, t2, b2, cs2, ks⟩ v2) : WV1 st N step S (F76 cb ob) ⟨8, i, c, t, b, cs, .cons k2 i2 c2 t2 b2 cs2 ks .nil⟩ v := by
  intro s way wa wn wc w hs hS hv hRow hwf hdeep
  have hd9 : wn + ehi (.cons k2 i2 c2 t2 b2 cs2 ks .nil) ≤ 1000 := by
    rcases hdeep with h | h
    · exact h
    · exact absurd (show (8 : Int) = 0 from h) (by decide)
  obtain ⟨h1, h2, hB⟩ := ww_facts w wa wn wc (F76 cb ob)
  have hlt := fun x => hO.2 s w x hs
  have hs1 := hO.1 _ _ _ hs hB
  have hS1 : ∀ x, S x → x < (ww w wa wn wc (F76 cb ob)).heap.size ∧ ¬ N s x := fun x hx => ⟨Nat.lt_of_lt_of_le (hS x hx).1 hB.size, (hS x hx).2⟩
  have hv1 := hv.below hB (fun x hx => (hS x hx).2)
  have hRow1 := hRow.below hB
  have HC := Lib.hid (hCL ⟨8, i, c, t, b, cs, .cons k2 i2 c2 t2 b2 cs2 ks .nil⟩ v s way wa wn wc (ww w wa wn wc (F76 cb ob)) hs1 hS1 hv1 hr (show (8 : Int) ≠ 0 by decide) hRow1 hwf (by omega))
  show Calls Tryz.prog 52 _ w (VP st N (vis1 step s ⟨8, i, c, t, b, cs, .cons k2 i2 c2 t2 b2 cs2 ks .nil⟩ way) s w)
  have hvis := vis_pos (step := step) (s := s) (e := ⟨8, i, c, t, b, cs, .cons k2 i2 c2 t2 b2 cs2 ks .nil⟩) (way := way) (show (8 : Int) ≠ 0 by decide)
  generalize vis1 step s ⟨8, i, c, t, b, cs, .cons k2 i2 c2 t2 b2 cs2 ks .nil⟩ way = res at *
  have HSTP : ∃ r, r = step s ⟨8, i, c, t, b, cs, .cons k2 i2 c2 t2 b2 cs2 ks .nil⟩ way := ⟨_, rfl⟩
  obtain ⟨r, hrs⟩ := HSTP
  rw [← hrs] at hvis HC
  obtain ⟨s1, b1⟩ := r
  have HVIS := Lib.hid hvis
  have HB := Lib.hid hB
  have HH := Lib.hid (And.intro h1 (And.intro h2 (And.intro (fun e => absurd (hlt _ e) (by omega) : ¬ N s w.heap.size) (fun e => absurd (hlt _ e) (by omega) : ¬ N s (w.heap.size + 1)))))
  have HR1 := Lib.hid (And.intro hRow1 hwf)
  have HV1 := Lib.hid (And.intro hv1 hS1)
  have hmf : ∀ (fn : Fn) (first cap : Array Value) (w : World), (Instr.makeFunc fn first cap).run Tryz.prog w = .ok (.func fn first cap) w := fun _ _ _ _ => rfl
  have x0 := h1.cell 0 rfl
  have y0 := h2.cell 0 rfl
  have hta := fun v w => ta108_4 v w
  have htb := fun v w => ta108_5 v w
  have hmu := fun v w => m108u v w
  obtain ⟨bl, bn, bc, cl, cn, cc, l, n, cap, q, p, hve, hE, _, hpt⟩ := hv1
  have hve2 : v = .iface 108 (.pointer (some ⟨p, 0, none⟩)) := hve
  subst hve2
  have hP := hpt (.inr (.inr (.inr (.inl rfl))))
  have HCU := Lib.hid (fun (wx : World) (hx : VK st N s s1 (ww w wa wn wc (F76 cb ob)) wx) => unw187 (S := S) (N := N s1) (hx.blk hP.1 hP.2) ((hE.same (fun x hx' _ => hx.2.1.block x (hS1 x hx').1 (hS1 x hx').2) (fun x hx' _ => hx')).2.2) (fun x e => hO.2 s1 wx x hx.1 e))
  have HCN := Lib.hid (fun (wx : World) (v2 : Value) (hst : st s1 wx) (hSN : ∀ x, S x → x < wx.heap.size ∧ ¬ N s1 x) (hvv : EVAt S (N s1) wx ⟨k2, i2, c2, t2, b2, cs2, ks⟩ v2) (hrw : Row 0 wx 1 wa wn wc (I8 way)) (hw : Blk wx w.heap.size [.slice wa wn wc]) (hd : Blk wx (w.heap.size + 1) [(F76 cb ob)]) (hn1 : ¬ N s1 w.heap.size) (hn2 : ¬ N s1 (w.heap.size + 1)) =>
    next83v hO (hOK v2) hst hSN hvv hrw (by have h9 := hd9; simp only [ehi] at h9; exact ⟨by omega, .inl (by omega)⟩) hw hd hn1 hn2 0)
  rw [visL_one] at HVIS
  generalize vis1 step s1 ⟨k2, i2, c2, t2, b2, cs2, ks⟩ (way ++ [((0 : Nat) : Int)]) = r2 at *
  clear hs hS hv hRow hwf hdeep hd9 hlt hs1 hS1 hRow1 hvis hrs h1 h2 hB hve hE hpt hr hCL hP hOK
  unfold F76 at *
  go_enter Tryz.func52, Tryz.ntmps52
  go_upto_region 1 with (fail)
  change Code.wp _ _ _ _ (ww w wa wn wc (.func (Fn.func 76) #[] #[.pointer (some ⟨cb, 0, none⟩), .pointer (some ⟨ob, 0, none⟩)]))
  generalize hww : ww w wa wn wc (.func (Fn.func 76) #[] #[.pointer (some ⟨cb, 0, none⟩), .pointer (some ⟨ob, 0, none⟩)]) = w1 at *
  cases b1
  · go_wp2_with (go_at_call 76; (with_reducible refine HC.out.mono ?_); intro e2 w2 hI; obtain ⟨rfl, hK2⟩ := hI; have HK2 := Lib.hid hK2; have HW2 := Lib.hid (hK2.blk HH.out.1 HH.out.2.2.1); have HD2 := Lib.hid (hK2.blk HH.out.2.1 HH.out.2.2.2); have HN1 := Lib.hid (hK2.notN HH.out.1.1 HH.out.2.2.1); have HN2 := Lib.hid (hK2.notN HH.out.2.1.1 HH.out.2.2.2); clear hK2)
    go_ret
    exact ⟨by rw [HVIS.out]; rfl, by rw [HVIS.out]; exact VK.ahead HB.out HK2.out⟩
  · go_upto_region 9 with (go_at_call 76; (with_reducible refine HC.out.mono ?_); intro e2 w2 hI; obtain ⟨rfl, hK2⟩ := hI; have HK2 := Lib.hid hK2; have HW2 := Lib.hid (hK2.blk HH.out.1 HH.out.2.2.1); have HD2 := Lib.hid (hK2.blk HH.out.2.1 HH.out.2.2.2); have HN1 := Lib.hid (hK2.notN HH.out.1.1 HH.out.2.2.1); have HN2 := Lib.hid (hK2.notN HH.out.2.1.1 HH.out.2.2.2); clear hK2)
    go_wp2_with (first
      | (go_at_call 187; (with_reducible refine (HCU.out _ HK2.out).mono ?_); rintro e3 w3 ⟨v3, rfl, hv3, hB3⟩; have HV3 := Lib.hid hv3; have HB3 := Lib.hid hB3; have HK3 := Lib.hid (VK.calm hO HK2.out hB3); clear hv3 hB3)
      | (go_at_call 83; (with_reducible refine (HCN.out _ _ HK3.out.s' (SN.vk HK3.out HV1.out.2) HV3.out (HR1.out.1.keep HK3.out.k (fun x hx => HR1.out.2 x hx)) (HW2.out.below HB3.out) (HD2.out.below HB3.out) HN1.out HN2.out).mono ?_); intro e4 w4 hI; obtain ⟨rfl, hK4⟩ := hI; have HK4 := Lib.hid hK4; clear hK4))
    go_ret
    exact ⟨by rw [HVIS.out]; rfl, by rw [HVIS.out]; exact VK.ahead HB.out (VK.trans HK3.out HK4.out)⟩
set_option maxRecDepth 100000 in
set_option maxHeartbeats 16000000 in
theorem wv76_8n (hO : VOK st N) {S : Nat → Prop} {cb ob : Nat} (hCL : CL76 st N step S cb ob) {i c : Int} {t : Bs} {b : Dt} {cs : List Int} {v : Value} (hr : rightE ⟨8, i, c, t, b, cs, .nil⟩ = true) : WV1 st N step S (F76 cb ob) ⟨8, i, c, t, b, cs, .nil⟩ v := by
  intro s way wa wn wc w hs hS hv hRow hwf hdeep
  have hd9 : wn + ehi (.nil) ≤ 1000 := by
    rcases hdeep with h | h
    · exact h
    · exact absurd (show (8 : Int) = 0 from h) (by decide)
  obtain ⟨h1, h2, hB⟩ := ww_facts w wa wn wc (F76 cb ob)
  have hlt := fun x => hO.2 s w x hs
  have hs1 := hO.1 _ _ _ hs hB
  have hS1 : ∀ x, S x → x < (ww w wa wn wc (F76 cb ob)).heap.size ∧ ¬ N s x := fun x hx => ⟨Nat.lt_of_lt_of_le (hS x hx).1 hB.size, (hS x hx).2⟩
  have hv1 := hv.below hB (fun x hx => (hS x hx).2)
  have hRow1 := hRow.below hB
  have HC := Lib.hid (hCL ⟨8, i, c, t, b, cs, .nil⟩ v s way wa wn wc (ww w wa wn wc (F76 cb ob)) hs1 hS1 hv1 hr (show (8 : Int) ≠ 0 by decide) hRow1 hwf (by omega))
  show Calls Tryz.prog 52 _ w (VP st N (vis1 step s ⟨8, i, c, t, b, cs, .nil⟩ way) s w)
  have hvis := vis_pos (step := step) (s := s) (e := ⟨8, i, c, t, b, cs, .nil⟩) (way := way) (show (8 : Int) ≠ 0 by decide)
  generalize vis1 step s ⟨8, i, c, t, b, cs, .nil⟩ way = res at *
  have HSTP : ∃ r, r = step s ⟨8, i, c, t, b, cs, .nil⟩ way := ⟨_, rfl⟩
  obtain ⟨r, hrs⟩ := HSTP
  rw [← hrs] at hvis HC
  obtain ⟨s1, b1⟩ := r
  have HVIS := Lib.hid hvis
  have HB := Lib.hid hB
  have HH := Lib.hid (And.intro h1 (And.intro h2 (And.intro (fun e => absurd (hlt _ e) (by omega) : ¬ N s w.heap.size) (fun e => absurd (hlt _ e) (by omega) : ¬ N s (w.heap.size + 1)))))
  have HR1 := Lib.hid (And.intro hRow1 hwf)
  have HV1 := Lib.hid (And.intro hv1 hS1)
  have hmf : ∀ (fn : Fn) (first cap : Array Value) (w : World), (Instr.makeFunc fn first cap).run Tryz.prog w = .ok (.func fn first cap) w := fun _ _ _ _ => rfl
  have x0 := h1.cell 0 rfl
  have y0 := h2.cell 0 rfl
  have hta := fun v w => ta108_4 v w
  have htb := fun v w => ta108_5 v w
  have hmu := fun v w => m108u v w
  obtain ⟨bl, bn, bc, cl, cn, cc, l, n, cap, q, p, hve, hE, _, hpt⟩ := hv1
  have hve2 : v = .iface 108 (.pointer (some ⟨p, 0, none⟩)) := hve
  subst hve2
  have hP := hpt (.inr (.inr (.inr (.inl rfl))))
  have hn0 : 0 = n := hE.2.2.len
  subst hn0
  have HCU := Lib.hid (fun (wx : World) (hx : VK st N s s1 (ww w wa wn wc (F76 cb ob)) wx) => unw187n (hx.blk hP.1 hP.2))
  have HCN := Lib.hid (fun (wx : World) (hst : st s1 wx) (hSN : ∀ x, S x → x < wx.heap.size ∧ ¬ N s1 x) (hrw : Row 0 wx 1 wa wn wc (I8 way)) (hw : Blk wx w.heap.size [.slice wa wn wc]) (hd : Blk wx (w.heap.size + 1) [(F76 cb ob)]) (hn1 : ¬ N s1 w.heap.size) (hn2 : ¬ N s1 (w.heap.size + 1)) =>
    next83v hO (wv76_0 (step := step) hO (i := 0) (c := 0) (t := []) (b := Dt.zero) (cs := []) (kids := .nil)) hst hSN nilEV hrw ⟨by have h9 := hd9; simp only [ehi] at h9; omega, .inr rfl⟩ hw hd hn1 hn2 0)
  have hz0 : vis1 step s1 ⟨0, 0, 0, [], Dt.zero, [], .nil⟩ (way ++ [(0 : Int)]) = (s1, true) := by unfold vis1; rw [if_pos rfl]
  rw [hz0] at HCN
  clear hs hS hv hRow hwf hdeep hd9 hlt hs1 hS1 hRow1 hvis hrs h1 h2 hB hve hE hpt hr hCL hP
  unfold F76 at *
  go_enter Tryz.func52, Tryz.ntmps52
  go_upto_region 1 with (fail)
  change Code.wp _ _ _ _ (ww w wa wn wc (.func (Fn.func 76) #[] #[.pointer (some ⟨cb, 0, none⟩), .pointer (some ⟨ob, 0, none⟩)]))
  generalize hww : ww w wa wn wc (.func (Fn.func 76) #[] #[.pointer (some ⟨cb, 0, none⟩), .pointer (some ⟨ob, 0, none⟩)]) = w1 at *
  cases b1
  · go_wp2_with (go_at_call 76; (with_reducible refine HC.out.mono ?_); intro e2 w2 hI; obtain ⟨rfl, hK2⟩ := hI; have HK2 := Lib.hid hK2; have HW2 := Lib.hid (hK2.blk HH.out.1 HH.out.2.2.1); have HD2 := Lib.hid (hK2.blk HH.out.2.1 HH.out.2.2.2); have HN1 := Lib.hid (hK2.notN HH.out.1.1 HH.out.2.2.1); have HN2 := Lib.hid (hK2.notN HH.out.2.1.1 HH.out.2.2.2); clear hK2)
    go_ret
    exact ⟨by rw [HVIS.out]; rfl, by rw [HVIS.out]; exact VK.ahead HB.out HK2.out⟩
  · go_upto_region 9 with (go_at_call 76; (with_reducible refine HC.out.mono ?_); intro e2 w2 hI; obtain ⟨rfl, hK2⟩ := hI; have HK2 := Lib.hid hK2; have HW2 := Lib.hid (hK2.blk HH.out.1 HH.out.2.2.1); have HD2 := Lib.hid (hK2.blk HH.out.2.1 HH.out.2.2.2); have HN1 := Lib.hid (hK2.notN HH.out.1.1 HH.out.2.2.1); have HN2 := Lib.hid (hK2.notN HH.out.2.1.1 HH.out.2.2.2); clear hK2)
    go_wp2_with (first
      | (go_at_call 187; (with_reducible refine (HCU.out _ HK2.out).mono ?_); rintro e3 w3 ⟨rfl, rfl⟩)
      | (go_at_call 83; (with_reducible refine (HCN.out _ HK2.out.s' (SN.vk HK2.out HV1.out.2) (HR1.out.1.keep HK2.out.k (fun x hx => HR1.out.2 x hx)) HW2.out HD2.out HN1.out HN2.out).mono ?_); intro e4 w4 hI; obtain ⟨rfl, hK4⟩ := hI; have HK4 := Lib.hid hK4; clear hK4))
    go_ret
    exact ⟨by rw [HVIS.out]; rfl, by rw [HVIS.out]; exact VK.ahead HB.out (VK.trans HK2.out HK4.out)⟩
set_option maxRecDepth 100000 in
set_option maxHeartbeats 16000000 in
theorem wv76_9 (hO : VOK st N) {S : Nat → Prop} {cb ob : Nat} (hCL : CL76 st N step S cb ob) {i c : Int} {t : Bs} {b : Dt} {cs : List Int} {v : Value} (hr : rightE ⟨9, i, c, t, b, cs, .nil⟩ = true) : WV1 st N step S (F76 cb ob) ⟨9, i, c, t, b, cs, .nil⟩ v := by
  intro s way wa wn wc w hs hS hv hRow hwf hdeep
  have hd9 : wn + ehi (.nil) ≤ 1000 := by
    rcases hdeep with h | h
    · exact h
    · exact absurd (show (9 : Int) = 0 from h) (by decide)
  obtain ⟨h1, h2, hB⟩ := ww_facts w wa wn wc (F76 cb ob)
  have hlt := fun x => hO.2 s w x hs
  have hs1 := hO.1 _ _ _ hs hB
  have hS1 : ∀ x, S x → x < (ww w wa wn wc (F76 cb ob)).heap.size ∧ ¬ N s x := fun x hx => ⟨Nat.lt_of_lt_of_le (hS x hx).1 hB.size, (hS x hx).2⟩
  have hv1 := hv.below hB (fun x hx => (hS x hx).2)
  have hRow1 := hRow.below hB
  have HC := Lib.hid (hCL ⟨9, i, c, t, b, cs, .nil⟩ v s way wa wn wc (ww w wa wn wc (F76 cb ob)) hs1 hS1 hv1 hr (show (9 : Int) ≠ 0 by decide) hRow1 hwf (by omega))
  show Calls Tryz.prog 52 _ w (VP st N (vis1 step s ⟨9, i, c, t, b, cs, .nil⟩ way) s w)
  have hvis := vis_pos (step := step) (s := s) (e := ⟨9, i, c, t, b, cs, .nil⟩) (way := way) (show (9 : Int) ≠ 0 by decide)
  generalize vis1 step s ⟨9, i, c, t, b, cs, .nil⟩ way = res at *
  have HSTP : ∃ r, r = step s ⟨9, i, c, t, b, cs, .nil⟩ way := ⟨_, rfl⟩
  obtain ⟨r, hrs⟩ := HSTP
  rw [← hrs] at hvis HC
  obtain ⟨s1, b1⟩ := r
  have HVIS := Lib.hid hvis
  have HB := Lib.hid hB
  have HH := Lib.hid (And.intro h1 (And.intro h2 (And.intro (fun e => absurd (hlt _ e) (by omega) : ¬ N s w.heap.size) (fun e => absurd (hlt _ e) (by omega) : ¬ N s (w.heap.size + 1)))))
  have HR1 := Lib.hid (And.intro hRow1 hwf)
  have HV1 := Lib.hid (And.intro hv1 hS1)
  have hmf : ∀ (fn : Fn) (first cap : Array Value) (w : World), (Instr.makeFunc fn first cap).run Tryz.prog w = .ok (.func fn first cap) w := fun _ _ _ _ => rfl
  have x0 := h1.cell 0 rfl
  have y0 := h2.cell 0 rfl
  have hta := fun v w => ta109_4 v w
  have htb := fun v w => ta109_5 v w
  obtain ⟨bl, bn, bc, cl, cn, cc, l, n, cap, q, p, hve, hE, _, hpt⟩ := hv1
  have hve2 : v = .iface 109 (.pointer (some ⟨p, 0, none⟩)) := hve
  subst hve2
  clear hs hS hv hRow hwf hdeep hd9 hlt hs1 hS1 hRow1 hvis hrs h1 h2 hB hve hE hpt hr hCL
  unfold F76 at *
  go_enter Tryz.func52, Tryz.ntmps52
  go_upto_region 1 with (fail)
  change Code.wp _ _ _ _ (ww w wa wn wc (.func (Fn.func 76) #[] #[.pointer (some ⟨cb, 0, none⟩), .pointer (some ⟨ob, 0, none⟩)]))
  generalize hww : ww w wa wn wc (.func (Fn.func 76) #[] #[.pointer (some ⟨cb, 0, none⟩), .pointer (some ⟨ob, 0, none⟩)]) = w1 at *
  cases b1
  · go_wp2_with (go_at_call 76; (with_reducible refine HC.out.mono ?_); intro e2 w2 hI; obtain ⟨rfl, hK2⟩ := hI; have HK2 := Lib.hid hK2; have HW2 := Lib.hid (hK2.blk HH.out.1 HH.out.2.2.1); have HD2 := Lib.hid (hK2.blk HH.out.2.1 HH.out.2.2.2); have HN1 := Lib.hid (hK2.notN HH.out.1.1 HH.out.2.2.1); have HN2 := Lib.hid (hK2.notN HH.out.2.1.1 HH.out.2.2.2); clear hK2)
    go_ret
    exact ⟨by rw [HVIS.out]; rfl, by rw [HVIS.out]; exact VK.ahead HB.out HK2.out⟩
  · go_wp2_with (go_at_call 76; (with_reducible refine HC.out.mono ?_); intro e2 w2 hI; obtain ⟨rfl, hK2⟩ := hI; have HK2 := Lib.hid hK2; have HW2 := Lib.hid (hK2.blk HH.out.1 HH.out.2.2.1); have HD2 := Lib.hid (hK2.blk HH.out.2.1 HH.out.2.2.2); have HN1 := Lib.hid (hK2.notN HH.out.1.1 HH.out.2.2.1); have HN2 := Lib.hid (hK2.notN HH.out.2.1.1 HH.out.2.2.2); clear hK2)
    go_ret
    exact ⟨by rw [HVIS.out]; rfl, by rw [HVIS.out]; exact VK.ahead HB.out HK2.out⟩
set_option maxRecDepth 100000 in
set_option maxHeartbeats 16000000 in
theorem wv76_10 (hO : VOK st N) {S : Nat → Prop} {cb ob : Nat} (hCL : CL76 st N step S cb ob) {i c : Int} {t : Bs} {b : Dt} {cs : List Int} {v : Value} (hr : rightE ⟨10, i, c, t, b, cs, .nil⟩ = true) : WV1 st N step S (F76 cb ob) ⟨10, i, c, t, b, cs, .nil⟩ v := by
  intro s way wa wn wc w hs hS hv hRow hwf hdeep
  have hd9 : wn + ehi (.nil) ≤ 1000 := by
    rcases hdeep with h | h
    · exact h
    · exact absurd (show (10 : Int) = 0 from h) (by decide)
  obtain ⟨h1, h2, hB⟩ := ww_facts w wa wn wc (F76 cb ob)
  have hlt := fun x => hO.2 s w x hs
  have hs1 := hO.1 _ _ _ hs hB
  have hS1 : ∀ x, S x → x < (ww w wa wn wc (F76 cb ob)).heap.size ∧ ¬ N s x := fun x hx => ⟨Nat.lt_of_lt_of_le (hS x hx).1 hB.size, (hS x hx).2⟩
  have hv1 := hv.below hB (fun x hx => (hS x hx).2)
  have hRow1 := hRow.below hB
  have HC := Lib.hid (hCL ⟨10, i, c, t, b, cs, .nil⟩ v s way wa wn wc (ww w wa wn wc (F76 cb ob)) hs1 hS1 hv1 hr (show (10 : Int) ≠ 0 by decide) hRow1 hwf (by omega))
  show Calls Tryz.prog 52 _ w (VP st N (vis1 step s ⟨10, i, c, t, b, cs, .nil⟩ way) s w)
  have hvis := vis_pos (step := step) (s := s) (e := ⟨10, i, c, t, b, cs, .nil⟩) (way := way) (show (10 : Int) ≠ 0 by decide)
  generalize vis1 step s ⟨10, i, c, t, b, cs, .nil⟩ way = res at *
  have HSTP : ∃ r, r = step s ⟨10, i, c, t, b, cs, .nil⟩ way := ⟨_, rfl⟩
  obtain ⟨r, hrs⟩ := HSTP
  rw [← hrs] at hvis HC
  obtain ⟨s1, b1⟩ := r
  have HVIS := Lib.hid hvis
  have HB := Lib.hid hB
  have HH := Lib.hid (And.intro h1 (And.intro h2 (And.intro (fun e => absurd (hlt _ e) (by omega) : ¬ N s w.heap.size) (fun e => absurd (hlt _ e) (by omega) : ¬ N s (w.heap.size + 1)))))
  have HR1 := Lib.hid (And.intro hRow1 hwf)
  have HV1 := Lib.hid (And.intro hv1 hS1)
  have hmf : ∀ (fn : Fn) (first cap : Array Value) (w : World), (Instr.makeFunc fn first cap).run Tryz.prog w = .ok (.func fn first cap) w := fun _ _ _ _ => rfl
  have x0 := h1.cell 0 rfl
  have y0 := h2.cell 0 rfl
  have hta := fun v w => ta110_4 v w
  have htb := fun v w => ta110_5 v w
  obtain ⟨bl, bn, bc, cl, cn, cc, l, n, cap, q, p, hve, hE, _, hpt⟩ := hv1
  have hve2 : v = .iface 110 (.agg #[.int .i64 c, .string ⟨t.toArray⟩]) := hve
  subst hve2
  clear hs hS hv hRow hwf hdeep hd9 hlt hs1 hS1 hRow1 hvis hrs h1 h2 hB hve hE hpt hr hCL
  unfold F76 at *
  go_enter Tryz.func52, Tryz.ntmps52
  go_upto_region 1 with (fail)
  change Code.wp _ _ _ _ (ww w wa wn wc (.func (Fn.func 76) #[] #[.pointer (some ⟨cb, 0, none⟩), .pointer (some ⟨ob, 0, none⟩)]))
  generalize hww : ww w wa wn wc (.func (Fn.func 76) #[] #[.pointer (some ⟨cb, 0, none⟩), .pointer (some ⟨ob, 0, none⟩)]) = w1 at *
  cases b1
  · go_wp2_with (go_at_call 76; (with_reducible refine HC.out.mono ?_); intro e2 w2 hI; obtain ⟨rfl, hK2⟩ := hI; have HK2 := Lib.hid hK2; have HW2 := Lib.hid (hK2.blk HH.out.1 HH.out.2.2.1); have HD2 := Lib.hid (hK2.blk HH.out.2.1 HH.out.2.2.2); have HN1 := Lib.hid (hK2.notN HH.out.1.1 HH.out.2.2.1); have HN2 := Lib.hid (hK2.notN HH.out.2.1.1 HH.out.2.2.2); clear hK2)
    go_ret
    exact ⟨by rw [HVIS.out]; rfl, by rw [HVIS.out]; exact VK.ahead HB.out HK2.out⟩
  · go_wp2_with (go_at_call 76; (with_reducible refine HC.out.mono ?_); intro e2 w2 hI; obtain ⟨rfl, hK2⟩ := hI; have HK2 := Lib.hid hK2; have HW2 := Lib.hid (hK2.blk HH.out.1 HH.out.2.2.1); have HD2 := Lib.hid (hK2.blk HH.out.2.1 HH.out.2.2.2); have HN1 := Lib.hid (hK2.notN HH.out.1.1 HH.out.2.2.1); have HN2 := Lib.hid (hK2.notN HH.out.2.1.1 HH.out.2.2.2); clear hK2)
    go_ret
    exact ⟨by rw [HVIS.out]; rfl, by rw [HVIS.out]; exact VK.ahead HB.out HK2.out⟩
theorem wvN76 (hO : VOK st N) {S : Nat → Prop} {cb ob : Nat} (hCL : CL76 st N step S cb ob) {kids : Eo} (hall : kids.All (WVOK st N step S (F76 cb ob))) : WVOK st N step S (F76 cb ob) kids := by
  intro k i c t b cs v hr0
  have hr := hr0
  unfold rright1 at hr
  rw [Bool.and_eq_true] at hr
  obtain ⟨hfit, hrr⟩ := hr
  obtain ⟨hk, hn, _, _⟩ := fit_num hfit
  have hrE : rightE ⟨k, i, c, t, b, cs, kids⟩ = true := hr0
  by_cases h0 : k = 0
  · subst h0
    intro s way wa wn wc w hs hS hv hRow hwf hdeep
    have hv0 : v = .nilIface := by
      obtain ⟨bl, bn, bc, cl, cn, cc, l, n, cap, q, p, hve, _⟩ := hv
      exact hve
    subst hv0
    exact wv76_0 hO s way wa wn wc w hs hS hv hRow hwf hdeep
  have hchild : ∀ {k2 i2 c2 : Int} {t2 : Bs} {b2 : Dt} {cs2 : List Int} {ks : Eo}, kids = .cons k2 i2 c2 t2 b2 cs2 ks .nil → ∀ v2, WV1 st N step S (F76 cb ob) ⟨k2, i2, c2, t2, b2, cs2, ks⟩ v2 := by
    intro k2 i2 c2 t2 b2 cs2 ks e v2
    subst e
    rw [rrightL, Bool.and_eq_true, Bool.and_eq_true] at hrr
    exact hall.1 k2 i2 c2 t2 b2 cs2 v2 hrr.1.2
  rcases kinds_cases k with rfl | rfl | rfl | rfl | rfl | rfl | rfl | rfl | rfl | rfl | ⟨z1, z2, z3, z4, z5, z6, z7, z8, z9, z10⟩
  · obtain rfl := len0 (show kids.len = 0 by have h := hn.2; simp [fldM] at h; omega)
    exact wv76_1 hO hCL hrE
  · obtain rfl := len0 (show kids.len = 0 by have h := hn.2; simp [fldM] at h; omega)
    exact wv76_2 hO hCL hrE
  · obtain ⟨k2, i2, c2, t2, b2, cs2, ks, e⟩ := len1 (show kids.len = 1 by have h := hn; simp [fldM] at h; omega)
    have hc := hchild e
    subst e
    exact wv76_3 hO hCL hrE hc
  · exact wv76_4 hO hCL hrE hall hrr (by have h := hn.2; simp [fldM] at h; omega)
  · obtain rfl := len0 (show kids.len = 0 by have h := hn.2; simp [fldM] at h; omega)
    exact wv76_5 hO hCL hrE
  · obtain rfl := len0 (show kids.len = 0 by have h := hn.2; simp [fldM] at h; omega)
    exact wv76_6 hO hCL hrE
  · obtain rfl := len0 (show kids.len = 0 by have h := hn.2; simp [fldM] at h; omega)
    exact wv76_7 hO hCL hrE
  · by_cases hl : kids.len = 0
    · obtain rfl := len0 hl
      exact wv76_8n hO hCL hrE
    · obtain ⟨k2, i2, c2, t2, b2, cs2, ks, e⟩ := len1 (show kids.len = 1 by have h := hn.2; simp [fldM] at h; omega)
      have hc := hchild e
      subst e
      exact wv76_8 hO hCL hrE hc
  · obtain rfl := len0 (show kids.len = 0 by have h := hn.2; simp [fldM] at h; omega)
    exact wv76_9 hO hCL hrE
  · obtain rfl := len0 (show kids.len = 0 by have h := hn.2; simp [fldM] at h; omega)
    exact wv76_10 hO hCL hrE
  · omega
theorem wvAll76 (hO : VOK st N) {S : Nat → Prop} {cb ob : Nat} (hCL : CL76 st N step S cb ob) : ∀ f : Eo, f.All (WVOK st N step S (F76 cb ob))
  | .nil => trivial
  | .cons _ _ _ _ _ _ kids rest => ⟨wvN76 hO hCL (wvAll76 hO hCL kids), wvAll76 hO hCL rest⟩
theorem wvG76 (hO : VOK st N) {S : Nat → Prop} {cb ob : Nat} (hCL : CL76 st N step S cb ob) (kids : Eo) : WVOK st N step S (F76 cb ob) kids := wvN76 hO hCL (wvAll76 hO hCL kids)
end
end Go.Proofs.YtbldidiibkcelaaGreatDoor

