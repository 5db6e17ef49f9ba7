/-
  The walk through an error value, by any visitor: what it comes to; the step to what is wrapped (walk). Not a statement of the seat.
-/
import Derived.Test.YtbldidiibkcelaaGreatDoorPEWalk7
import Derived.Test.YtbldidiibkcelaaGreatDoorPEJoinP
namespace Go.Proofs.YtbldidiibkcelaaGreatDoor
open Go.RowKit

section
variable {σ : Type} (st : σ → World → Prop) (N : σ → Nat → Prop) (step : σ → Et → List Int → σ × Bool)
/-- a row of errors is visited -/
def visL : Eo → σ → List Int → Nat → σ × Bool
  | .nil, s, _, _ => (s, true)
  | .cons k i c t b cs ks rest, s, way, j =>
    if (if k = 0 then (s, true) else if (step s ⟨k, i, c, t, b, cs, ks⟩ (way ++ [(j : Int)])).2 = true then visL ks (step s ⟨k, i, c, t, b, cs, ks⟩ (way ++ [(j : Int)])).1 (way ++ [(j : Int)]) 0 else ((step s ⟨k, i, c, t, b, cs, ks⟩ (way ++ [(j : Int)])).1, false)).2 = true
    then visL rest (if k = 0 then (s, true) else if (step s ⟨k, i, c, t, b, cs, ks⟩ (way ++ [(j : Int)])).2 = true then visL ks (step s ⟨k, i, c, t, b, cs, ks⟩ (way ++ [(j : Int)])).1 (way ++ [(j : Int)]) 0 else ((step s ⟨k, i, c, t, b, cs, ks⟩ (way ++ [(j : Int)])).1, false)).1 way (j + 1)
    else ((if k = 0 then (s, true) else if (step s ⟨k, i, c, t, b, cs, ks⟩ (way ++ [(j : Int)])).2 = true then visL ks (step s ⟨k, i, c, t, b, cs, ks⟩ (way ++ [(j : Int)])).1 (way ++ [(j : Int)]) 0 else ((step s ⟨k, i, c, t, b, cs, ks⟩ (way ++ [(j : Int)])).1, false)).1, false)
/-- .. one error -/
def vis1 (s : σ) (e : Et) (way : List Int) : σ × Bool := if e.k = 0 then (s, true) else if (step s e way).2 = true then visL step e.l (step s e way).1 way 0 else ((step s e way).1, false)
theorem visL_cons (k i c : Int) (t : Bs) (b : Dt) (cs : List Int) (ks rest : Eo) (s : σ) (way : List Int) (j : Nat) : visL step (.cons k i c t b cs ks rest) s way j = if (vis1 step s ⟨k, i, c, t, b, cs, ks⟩ (way ++ [(j : Int)])).2 = true then visL step rest (vis1 step s ⟨k, i, c, t, b, cs, ks⟩ (way ++ [(j : Int)])).1 way (j + 1) else ((vis1 step s ⟨k, i, c, t, b, cs, ks⟩ (way ++ [(j : Int)])).1, false) := by
  rw [visL]
  rfl
theorem visL_one (k i c : Int) (t : Bs) (b : Dt) (cs : List Int) (ks : Eo) (s : σ) (way : List Int) (j : Nat) : visL step (.cons k i c t b cs ks .nil) s way j = vis1 step s ⟨k, i, c, t, b, cs, ks⟩ (way ++ [(j : Int)]) := by
  rw [visL_cons]
  rcases h : vis1 step s ⟨k, i, c, t, b, cs, ks⟩ (way ++ [(j : Int)]) with ⟨s1, b1⟩
  cases b1 <;> simp [visL]
/-- a visit has turned the state, and nothing else -/
def VK (s s' : σ) (w w' : World) : Prop := st s' w' ∧ Kept (N s) w w' ∧ ∀ x, N s' x → N s x ∨ w.heap.size ≤ x
/-- what a visit comes to -/
def VP (r : σ × Bool) (s : σ) (w : World) (e : Ending) (w' : World) : Prop := e = .returned (.bool r.2) ∧ VK st N s r.1 w w'
/-- the states stay while nothing old is turned, and lie in what is there -/
def VOK : Prop := (∀ s w w', st s w → Below w.heap.size w w' → st s w') ∧ ∀ s w x, st s w → N s x → x < w.heap.size
variable {st N step}
theorem VK.refl {s : σ} {w : World} (h : st s w) : VK st N s s w w := ⟨h, Kept.refl _ _, fun _ h => .inl h⟩
theorem VK.trans {s s1 s2 : σ} {w w1 w2 : World} (h : VK st N s s1 w w1) (g : VK st N s1 s2 w1 w2) : VK st N s s2 w w2 := by
  refine ⟨g.1, h.2.1.tail g.2.1 (fun x hx hn => ?_), fun x hx => ?_⟩
  · rcases h.2.2 x hn with h1 | h1
    · exact h1
    · omega
  · rcases g.2.2 x hx with h1 | h1
    · exact h.2.2 x h1
    · exact .inr (Nat.le_trans h.2.1.size h1)
theorem VK.s' {s s1 : σ} {w w1 : World} (h : VK st N s s1 w w1) : st s1 w1 := h.1
theorem VK.k {s s1 : σ} {w w1 : World} (h : VK st N s s1 w w1) : Kept (N s) w w1 := h.2.1
theorem VK.calm {s s1 : σ} {w w1 w2 : World} (hO : VOK st N) (h : VK st N s s1 w w1) (hB : Below w1.heap.size w1 w2) : VK st N s s1 w w2 := ⟨hO.1 _ _ _ h.1 hB, h.2.1.calm hB, h.2.2⟩
theorem VK.ahead {s s1 : σ} {w w1 w2 : World} (hB : Below w.heap.size w w1) (h : VK st N s s1 w1 w2) : VK st N s s1 w w2 :=
  ⟨h.1, (Kept.of' (N := N s) hB).tail h.2.1 (fun _ _ h => h), fun x hx => (h.2.2 x hx).imp id (fun h1 => Nat.le_trans hB.size h1)⟩
theorem VK.notN {s s1 : σ} {w w1 : World} (h : VK st N s s1 w w1) {x : Nat} (hx : x < w.heap.size) (hn : ¬ N s x) : ¬ N s1 x := fun e => by
  rcases h.2.2 x e with h1 | h1
  · exact hn h1
  · omega
theorem VK.blk {s s1 : σ} {w w1 : World} {b : Nat} {vs : List Value} (h : VK st N s s1 w w1) (hb : Blk w b vs) (hn : ¬ N s b) : Blk w1 b vs := hb.keep h.2.1 hn
theorem EVAt.vk {S : Nat → Prop} {s s1 : σ} {w w1 : World} {e : Et} {v : Value} (hv : EVAt S (N s) w e v) (h : VK st N s s1 w w1) (hS : ∀ x, S x → x < w.heap.size ∧ ¬ N s x) : EVAt S (N s1) w1 e v := by
  obtain ⟨bl, bn, bc, cl, cn, cc, l, n, cap, q, p, h1, h2, h3, h4⟩ := hv
  exact ⟨bl, bn, bc, cl, cn, cc, l, n, cap, q, p, h1, h2.same (fun x hx _ => h.2.1.block x (hS x hx).1 (hS x hx).2) (fun x hx _ => hx), fun e => ⟨h.blk (h3 e).1 (h3 e).2, h.notN (h3 e).1.1 (h3 e).2⟩, fun e => ⟨h.blk (h4 e).1 (h4 e).2, h.notN (h4 e).1.1 (h4 e).2⟩⟩
theorem SN.vk {S : Nat → Prop} {s s1 : σ} {w w1 : World} (h : VK st N s s1 w w1) (hS : ∀ x, S x → x < w.heap.size ∧ ¬ N s x) : ∀ x, S x → x < w1.heap.size ∧ ¬ N s1 x := fun x hx => ⟨Nat.lt_of_lt_of_le (hS x hx).1 h.2.1.size, h.notN (hS x hx).1 (hS x hx).2⟩
variable (st N step)
/-- walk, at one error's value, by a visitor F -/
def WV1 (S : Nat → Prop) (F : Value) (e : Et) (v : Value) : Prop := ∀ (s : σ) (way : List Int) (wa : Option Addr) (wn wc : Nat) (w : World),
  st s w → (∀ x, S x → x < w.heap.size ∧ ¬ N s x) → EVAt S (N s) w e v → Row 0 w 1 wa wn wc (I8 way) → (∀ x, blockOf wa = some x → ¬ N s x) → (wn + ehi e.l ≤ 1000 ∨ e.k = 0) →
  Calls Tryz.prog 52 #[v, .slice wa wn wc, F] w (VP st N (vis1 step s e way) s w)
def WVOK (S : Nat → Prop) (F : Value) (kids : Eo) : Prop := ∀ (k i c : Int) (t : Bs) (b : Dt) (cs : List Int) (v : Value), rright1 k i c t b cs kids = true → WV1 st N step S F ⟨k, i, c, t, b, cs, kids⟩ v
variable {st N step}

set_option maxRecDepth 100000 in
set_option maxHeartbeats 8000000 in
theorem next83v (hO : VOK st N) {S : Nat → Prop} {F : Value} {wb db : Nat} {k i c : Int} {t : Bs} {b : Dt} {cs : List Int} {kids : Eo} {v : Value} (hOK : WV1 st N step S F ⟨k, i, c, t, b, cs, kids⟩ v) {s : σ} {way : List Int} {wa : Option Addr} {wn wc : Nat} {w : World}
    (hs : st s w) (hS : ∀ x, S x → x < w.heap.size ∧ ¬ N s x) (hv : EVAt S (N s) w ⟨k, i, c, t, b, cs, kids⟩ v) (hRow : Row 0 w 1 wa wn wc (I8 way)) (hdeep : wn ≤ 1000 ∧ (wn + 1 + ehi kids ≤ 1000 ∨ k = 0))
    (hW : Blk w wb [.slice wa wn wc]) (hD : Blk w db [F]) (hwb : ¬ N s wb) (hdb : ¬ N s db) (j : Int) :
    Calls Tryz.prog 83 #[.int .i64 j, v, .pointer (some ⟨wb, 0, none⟩), .pointer (some ⟨db, 0, none⟩)] w (VP st N (vis1 step s ⟨k, i, c, t, b, cs, kids⟩ (way ++ [j])) s w) := by
  obtain ⟨i0, hi, hy0, hy1, hy2⟩ := info3
  have hmax : wc ≤ 9223372036854775807 := by have h2 := hRow.2.2.1; unfold maxLen at h2; omega
  have HK := Lib.hid (show ∀ wx, Below w.heap.size w wx → (wx.cell? ⟨wb, 0, none⟩ = some (.slice wa wn wc) ∧ wx.cell? ⟨db, 0, none⟩ = some F) from fun wx hx => ⟨(hW.below hx).cell 0 rfl, (hD.below hx).cell 0 rfl⟩)
  have HKK := Lib.hid (show ∀ (s1 : σ) (wx : World), VK st N s s1 w wx → (wx.cell? ⟨wb, 0, none⟩ = some (.slice wa wn wc) ∧ wx.cell? ⟨db, 0, none⟩ = some F) from fun _ wx hx => ⟨(hx.blk hW hwb).cell 0 rfl, (hx.blk hD hdb).cell 0 rfl⟩)
  have HC := Lib.hid (fun (wx : World) (hx : Below w.heap.size w wx) (a : Option Addr) (c4 : Nat) (hR : Row 0 wx 1 a (wn + 1) c4 (I8 way ++ [.int .i64 j])) (ha : ∀ x, blockOf a = some x → ¬ N s x) =>
    (hOK s (way ++ [j]) a (wn + 1) c4 wx (hO.1 _ _ _ hs hx) (fun x hx' => ⟨Nat.lt_of_lt_of_le (hS x hx').1 hx.size, (hS x hx').2⟩) (hv.below hx (fun x hx' => (hS x hx').2)) (by rw [show I8 (way ++ [j]) = I8 way ++ [.int .i64 j] by simp [I8]]; exact hR) ha (by show wn + 1 + ehi kids ≤ 1000 ∨ k = 0; exact hdeep.2)).mono (fun e w' h => (⟨h.1, VK.ahead hx h.2⟩ : VP st N _ s w e w')))
  have HCL := Lib.hid (fun (wx : World) => clip84g (a := wa) (n := wn) (c := wc) wx hRow.2.1 hmax (fun e => by
    rcases hRow.2.2.2 with h | ⟨b, off, h, _⟩
    · exact h.2
    · rw [e] at h; cases h))
  have HR := Lib.hid (fun (wx : World) (hx : Below w.heap.size w wx) => (show Row 0 wx 1 wa wn wn (I8 way) from by
    have h := (hRow.below hx).take (k := wn) (c := wn) (Nat.le_refl _) (Nat.le_refl _) hRow.2.1
    have hl : (I8 way).length = wn := by have := hRow.1; omega
    rw [show (I8 way).take (wn * 1) = I8 way by rw [Nat.mul_one, ← hl, List.take_length]] at h
    exact h))
  have HLT := Lib.hid (hO.2 s w · hs)
  generalize vis1 step s ⟨k, i, c, t, b, cs, kids⟩ (way ++ [j]) = r at *
  have hwn : wn ≤ 1000 := hdeep.1
  have HS := Lib.hid (Src.oneAt (P := Tryz.prog) (w := w.drew) (tx := 49) Tryz.underlying49 (.int .i64 j) 3 rfl (g := w.heap.size) rfl)
  clear hs hS hv hRow hdeep hW hD hOK hmax hwb hdb
  go_enter Tryz.func83, Tryz.ntmps83
  go_upto_region 1 with fail
  obtain ⟨s1, b1⟩ := r
  go_region_held3 (fun wx : World => wx.cell? ⟨wb, 0, none⟩ = some (.slice wa wn wc) ∧ wx.cell? ⟨db, 0, none⟩ = some F)
    (first | exact HK.out _ (Below.refl _ _) | exact HK.out _ (Below.refl _ _).drew | exact HK.out _ (bel_dr (bel_al (Below.refl _ w) _)) | exact HK.out _ (bel_al (bel_dr (Below.refl _ w)) _) | exact HK.out _ HB4.out | exact HKV.out)
    (first
      | (go_simp; go_at_call 84; (with_reducible refine (HCL.out _).mono ?_); rintro e2 w2 ⟨rfl, rfl⟩)
      | (go_simp; go_at_call 52; (with_reducible refine (HC.out _ HB4.out _ _ HR4.out HA4.out).mono ?_); intro e5 w5 hI; obtain ⟨rfl, hK5⟩ := hI; have HK5 := Lib.hid hK5; have HKV := Lib.hid (HKK.out _ _ hK5); clear hK5)
      | (refine step_append_full rfl _ _ 49 49 rfl 3 i0 (.int .i64 0) 1 8 Tryz.underlying49 hi hy0 hy1 hy2 rfl rfl (HR.out _ (bel_dr (bel_al (Below.refl _ w) _))) 1 _ HS.out (by unfold maxLen; omega) (by omega) (Nat.zero_le _) (by omega) ?_; intro a4 c4 w4 hrow hB4 hbk; have HB4 := Lib.hid (bel_tr (bel_dr (bel_al (Below.refl _ w) (.cells #[.int .i64 j] 3))) hB4); have HR4 := Lib.hid hrow; have HA4 := Lib.hid (show ∀ x, blockOf a4 = some x → ¬ N s x from fun x hx e => by rw [hbk] at hx; cases hx; have h0 := HLT.out _ e; simp at h0; omega); clear hrow hB4 hbk))
  all_goals
    go_wp2_with fail
    go_ret
    exact ⟨rfl, HK5.out⟩
end
end Go.Proofs.YtbldidiibkcelaaGreatDoor

