/-
  The walk by a visitor whose state holds more than the visit tells (walk). Not a statement of the seat.
-/
import Derived.Test.YtbldidiibkcelaaGreatDoorTERAs
namespace Go.Proofs.YtbldidiibkcelaaGreatDoor
open Go.RowKit

section
variable {σ α : Type} (st : σ → World → Prop) (N : σ → Nat → Prop) (abs : σ → α) (step : α → Et → List Int → α × Bool) (room : α → Nat → Prop)
/-- what a visit comes to -/
def VPA {σ α : Type} (st : σ → World → Prop) (N : σ → Nat → Prop) (abs : σ → α) (r : α × Bool) (s : σ) (w : World) (e : Ending) (w' : World) : Prop := ∃ s', abs s' = r.1 ∧ e = .returned (.bool r.2) ∧ VK st N s s' w w'
/-- room for so many visits more: a step takes one -/
def ROK : Prop := (∀ a n m, m ≤ n → room a n → room a m) ∧ ∀ a e way n, room a (n + 1) → room (step a e way).1 n
variable {step room}
theorem ROK.vis (hM : ROK step room) {a : α} {e : Et} {way : List Int} {m : Nat} (hL : ∀ (a : α) (way : List Int) (j m : Nat), room a (esz e.l + m) → room (visL step e.l a way j).1 m) (h : room a (1 + esz e.l + m)) : room (vis1 step a e way).1 m := by
  unfold vis1
  split
  · exact hM.1 _ _ _ (by omega) h
  · have h2 := hM.2 a e way (esz e.l + m) (by rw [show esz e.l + m + 1 = 1 + esz e.l + m by omega]; exact h)
    split
    · exact hL _ _ _ _ h2
    · exact hM.1 _ _ _ (by omega) h2
theorem ROK.row (hM : ROK step room) : ∀ (f : Eo) (a : α) (way : List Int) (j m : Nat), room a (esz f + m) → room (visL step f a way j).1 m
  | .nil, a, way, j, m, h => by
    have h' : room a (0 + m) := h
    rw [Nat.zero_add] at h'
    exact h'
  | .cons k i c t b cs ks rest, a, way, j, m, h => by
    rw [visL_cons]
    have h1 : room (vis1 step a ⟨k, i, c, t, b, cs, ks⟩ (way ++ [(j : Int)])).1 (esz rest + m) := hM.vis (e := ⟨k, i, c, t, b, cs, ks⟩) (fun a way j m h => hM.row ks a way j m h) (by
      have h2 : room a (1 + esz ks + esz rest + m) := h
      rw [show 1 + esz ks + esz rest + m = 1 + esz ks + (esz rest + m) by omega] at h2
      exact h2)
    split
    · exact hM.row rest _ _ _ _ h1
    · exact hM.1 _ _ _ (by omega) h1
variable (step room)
/-- walk, at one error's value, by a visitor F -/
def WA1 (S : Nat → Prop) (F : Value) (e : Et) (v : Value) : Prop := ∀ (s : σ) (way : List Int) (wa : Option Addr) (wn wc : Nat) (w : World),
  st s w → (∀ x, S x → x < w.heap.size ∧ ¬ N s x) → EVAt S (N s) w e v → Row 0 w 1 wa wn wc (I8 way) → (∀ x, blockOf wa = some x → ¬ N s x) → (wn + ehi e.l ≤ 1000 ∨ e.k = 0) → (room (abs s) (1 + esz e.l) ∨ e.k = 0) →
  Calls Tryz.prog 52 #[v, .slice wa wn wc, F] w (VPA st N abs (vis1 step (abs s) e way) s w)
def WAOK (S : Nat → Prop) (F : Value) (kids : Eo) : Prop := ∀ (k i c : Int) (t : Bs) (b : Dt) (cs : List Int) (v : Value), rright1 k i c t b cs kids = true → WA1 st N abs step room S F ⟨k, i, c, t, b, cs, kids⟩ v
variable {st N abs step room}

set_option maxRecDepth 100000 in
set_option maxHeartbeats 8000000 in
theorem next83a (hO : VOK st N) {S : Nat → Prop} {F : Value} {wb db : Nat} {k i c : Int} {t : Bs} {b : Dt} {cs : List Int} {kids : Eo} {v : Value} (hOK : WA1 st N abs step room S F ⟨k, i, c, t, b, cs, kids⟩ v) {s : σ} {way : List Int} {wa : Option Addr} {wn wc : Nat} {w : World}
    (hs : st s w) (hS : ∀ x, S x → x < w.heap.size ∧ ¬ N s x) (hv : EVAt S (N s) w ⟨k, i, c, t, b, cs, kids⟩ v) (hRow : Row 0 w 1 wa wn wc (I8 way)) (hdeep : wn ≤ 1000 ∧ (wn + 1 + ehi kids ≤ 1000 ∨ k = 0))
    (hW : Blk w wb [.slice wa wn wc]) (hD : Blk w db [F]) (hwb : ¬ N s wb) (hdb : ¬ N s db) (hroom : room (abs s) (1 + esz kids) ∨ k = 0) (j : Int) :
    Calls Tryz.prog 83 #[.int .i64 j, v, .pointer (some ⟨wb, 0, none⟩), .pointer (some ⟨db, 0, none⟩)] w (VPA st N abs (vis1 step (abs s) ⟨k, i, c, t, b, cs, kids⟩ (way ++ [j])) s w) := by
  obtain ⟨i0, hi, hy0, hy1, hy2⟩ := info3
  have hmax : wc ≤ 9223372036854775807 := by have h2 := hRow.2.2.1; unfold maxLen at h2; omega
  have HK := Lib.hid (show ∀ wx, Below w.heap.size w wx → (wx.cell? ⟨wb, 0, none⟩ = some (.slice wa wn wc) ∧ wx.cell? ⟨db, 0, none⟩ = some F) from fun wx hx => ⟨(hW.below hx).cell 0 rfl, (hD.below hx).cell 0 rfl⟩)
  have HKK := Lib.hid (show ∀ (s1 : σ) (wx : World), VK st N s s1 w wx → (wx.cell? ⟨wb, 0, none⟩ = some (.slice wa wn wc) ∧ wx.cell? ⟨db, 0, none⟩ = some F) from fun _ wx hx => ⟨(hx.blk hW hwb).cell 0 rfl, (hx.blk hD hdb).cell 0 rfl⟩)
  have HC := Lib.hid (fun (wx : World) (hx : Below w.heap.size w wx) (a : Option Addr) (c4 : Nat) (hR : Row 0 wx 1 a (wn + 1) c4 (I8 way ++ [.int .i64 j])) (ha : ∀ x, blockOf a = some x → ¬ N s x) =>
    (hOK s (way ++ [j]) a (wn + 1) c4 wx (hO.1 _ _ _ hs hx) (fun x hx' => ⟨Nat.lt_of_lt_of_le (hS x hx').1 hx.size, (hS x hx').2⟩) (hv.below hx (fun x hx' => (hS x hx').2)) (by rw [show I8 (way ++ [j]) = I8 way ++ [.int .i64 j] by simp [I8]]; exact hR) ha (by show wn + 1 + ehi kids ≤ 1000 ∨ k = 0; exact hdeep.2) hroom).mono (fun e w' h => (by obtain ⟨s', h1, h2, h3⟩ := h; exact ⟨s', h1, h2, VK.ahead hx h3⟩ : VPA st N abs _ s w e w')))
  have HCL := Lib.hid (fun (wx : World) => clip84g (a := wa) (n := wn) (c := wc) wx hRow.2.1 hmax (fun e => by
    rcases hRow.2.2.2 with h | ⟨b, off, h, _⟩
    · exact h.2
    · rw [e] at h; cases h))
  have HR := Lib.hid (fun (wx : World) (hx : Below w.heap.size w wx) => (show Row 0 wx 1 wa wn wn (I8 way) from by
    have h := (hRow.below hx).take (k := wn) (c := wn) (Nat.le_refl _) (Nat.le_refl _) hRow.2.1
    have hl : (I8 way).length = wn := by have := hRow.1; omega
    rw [show (I8 way).take (wn * 1) = I8 way by rw [Nat.mul_one, ← hl, List.take_length]] at h
    exact h))
  have HLT := Lib.hid (hO.2 s w · hs)
  generalize vis1 step (abs s) ⟨k, i, c, t, b, cs, kids⟩ (way ++ [j]) = r at *
  have hwn : wn ≤ 1000 := hdeep.1
  have HS := Lib.hid (Src.oneAt (P := Tryz.prog) (w := w.drew) (tx := 49) Tryz.underlying49 (.int .i64 j) 3 rfl (g := w.heap.size) rfl)
  clear hs hS hv hRow hdeep hW hD hOK hmax hwb hdb
  go_enter Tryz.func83, Tryz.ntmps83
  go_upto_region 1 with fail
  obtain ⟨s1, b1⟩ := r
  go_region_held3 (fun wx : World => wx.cell? ⟨wb, 0, none⟩ = some (.slice wa wn wc) ∧ wx.cell? ⟨db, 0, none⟩ = some F)
    (first | exact HK.out _ (Below.refl _ _) | exact HK.out _ (Below.refl _ _).drew | exact HK.out _ (bel_dr (bel_al (Below.refl _ w) _)) | exact HK.out _ (bel_al (bel_dr (Below.refl _ w)) _) | exact HK.out _ HB4.out | exact HKV.out)
    (first
      | (go_simp; go_at_call 84; (with_reducible refine (HCL.out _).mono ?_); rintro e2 w2 ⟨rfl, rfl⟩)
      | (go_simp; go_at_call 52; (with_reducible refine (HC.out _ HB4.out _ _ HR4.out HA4.out).mono ?_); intro e5 w5 hI; obtain ⟨s5, ha5, rfl, hK5⟩ := hI; have HA5 := Lib.hid ha5; have HK5 := Lib.hid hK5; have HKV := Lib.hid (HKK.out _ _ hK5); clear hK5 ha5)
      | (refine step_append_full rfl _ _ 49 49 rfl 3 i0 (.int .i64 0) 1 8 Tryz.underlying49 hi hy0 hy1 hy2 rfl rfl (HR.out _ (bel_dr (bel_al (Below.refl _ w) _))) 1 _ HS.out (by unfold maxLen; omega) (by omega) (Nat.zero_le _) (by omega) ?_; intro a4 c4 w4 hrow hB4 hbk; have HB4 := Lib.hid (bel_tr (bel_dr (bel_al (Below.refl _ w) (.cells #[.int .i64 j] 3))) hB4); have HR4 := Lib.hid hrow; have HA4 := Lib.hid (show ∀ x, blockOf a4 = some x → ¬ N s x from fun x hx e => by rw [hbk] at hx; cases hx; have h0 := HLT.out _ e; simp at h0; omega); clear hrow hB4 hbk))
  all_goals
    go_wp2_with fail
    go_ret
    exact ⟨s5, HA5.out, rfl, HK5.out⟩
end
end Go.Proofs.YtbldidiibkcelaaGreatDoor

/-
  The walk by the visitor f64 (walk). Not a statement of the seat.
-/
namespace Go.Proofs.YtbldidiibkcelaaGreatDoor
open Go.RowKit

section
variable {σ α : Type} {st : σ → World → Prop} {N : σ → Nat → Prop} {abs : σ → α} {step : α → Et → List Int → α × Bool} {room : α → Nat → Prop}
/-- what is asked of the visitor -/
def CA64 (st : σ → World → Prop) (N : σ → Nat → Prop) (abs : σ → α) (step : α → Et → List Int → α × Bool) (room : α → Nat → Prop) (S : Nat → Prop) (ob : Nat) : Prop := ∀ (e : Et) (v : Value) (s : σ) (way : List Int) (wa : Option Addr) (wn wc : Nat) (w : World),
  st s w → (∀ x, S x → x < w.heap.size ∧ ¬ N s x) → EVAt S (N s) w e v → rightE e = true → e.k ≠ 0 → Row 0 w 1 wa wn wc (I8 way) → (∀ x, blockOf wa = some x → ¬ N s x) → wn ≤ 1000 → room (abs s) 1 →
  Calls Tryz.prog 64 #[v, .slice wa wn wc, .pointer (some ⟨ob, 0, none⟩)] w (VPA st N abs (step (abs s) e way) s w)
/-- between two rounds -/
def WmA (st : σ → World → Prop) (N : σ → Nat → Prop) (abs : σ → α) (step : α → Et → List Int → α × Bool) (room : α → Nat → Prop) (S : Nat → Prop) (wb : Nat) (FV : Value) (kids : Eo) (s : σ) (way : List Int) (wv : Value) (a : Option Addr) (m c : Nat) (vs : List Value) (w1 : World) (res : α × Bool) (t34 : Value) (wr : World) : Prop :=
  ∃ (dn rest : Eo) (s2 : σ), t34 = .int .i64 (dn.len : Nat) ∧ kids = dn.app rest ∧ EVs S (N s2) wr rest (vs.drop dn.len) ∧ VK st N s s2 w1 wr ∧ Blk wr wb [wv] ∧ Blk wr (wb + 1) [FV] ∧ ¬ N s2 wb ∧ ¬ N s2 (wb + 1) ∧ Row 0 wr 1 a m c vs ∧ (∀ x, blockOf a = some x → ¬ N s2 x) ∧ visL step rest (abs s2) way dn.len = res ∧ room (abs s2) (esz rest)
set_option maxRecDepth 100000 in
set_option maxHeartbeats 4000000 in
theorem wa64_0 (hO : VOK st N) {S : Nat → Prop} {ob : Nat} {i c : Int} {t : Bs} {b : Dt} {cs : List Int} {kids : Eo} : WA1 st N abs step room S (F64 ob) ⟨0, i, c, t, b, cs, kids⟩ .nilIface := by
  intro s way wa wn wc w hs _ _ _ _ _ _
  obtain ⟨_, _, hB⟩ := ww_facts w wa wn wc (F64 ob)
  have hz : vis1 step (abs s) ⟨0, i, c, t, b, cs, kids⟩ way = (abs s, true) := by unfold vis1; rw [if_pos rfl]
  show Calls Tryz.prog 52 _ w (VPA st N abs (vis1 step (abs s) ⟨0, i, c, t, b, cs, kids⟩ way) s w)
  rw [hz]
  have HS := Lib.hid (hO.1 _ _ _ hs hB)
  have HB := Lib.hid hB
  clear hs hB hz
  unfold F64 at *
  go_enter Tryz.func52, Tryz.ntmps52
  go_upto_region 1 with (fail)
  change Code.wp _ _ _ _ (ww w wa wn wc (.func (Fn.func 64) #[] #[.pointer (some ⟨ob, 0, none⟩)]))
  generalize ww w wa wn wc (.func (Fn.func 64) #[] #[.pointer (some ⟨ob, 0, none⟩)]) = w1 at *
  go_wp2_with fail
  go_ret
  exact ⟨s, rfl, rfl, HS.out, Kept.of' HB.out, fun _ h => .inl h⟩
set_option maxRecDepth 100000 in
set_option maxHeartbeats 16000000 in
theorem wa64_1 (hO : VOK st N) (hM : ROK step room) {S : Nat → Prop} {ob : Nat} (hCL : CA64 st N abs step room S ob) {i c : Int} {t : Bs} {b : Dt} {cs : List Int} {v : Value} (hr : rightE ⟨1, i, c, t, b, cs, .nil⟩ = true) : WA1 st N abs step room S (F64 ob) ⟨1, i, c, t, b, cs, .nil⟩ v := by
  intro s way wa wn wc w hs hS hv hRow hwf hdeep hroom
  have hr1 : room (abs s) (1 + esz (.nil)) := by
    rcases hroom with h | h
    · exact h
    · exact absurd (show (1 : Int) = 0 from h) (by decide)
  have hrm : room (step (abs s) ⟨1, i, c, t, b, cs, .nil⟩ way).1 (esz (.nil)) := hM.2 _ _ _ _ (by rw [Nat.add_comm]; exact hr1)
  have hd9 : wn + ehi (.nil) ≤ 1000 := by
    rcases hdeep with h | h
    · exact h
    · exact absurd (show (1 : Int) = 0 from h) (by decide)
  obtain ⟨h1, h2, hB⟩ := ww_facts w wa wn wc (F64 ob)
  have hlt := fun x => hO.2 s w x hs
  have hs1 := hO.1 _ _ _ hs hB
  have hS1 : ∀ x, S x → x < (ww w wa wn wc (F64 ob)).heap.size ∧ ¬ N s x := fun x hx => ⟨Nat.lt_of_lt_of_le (hS x hx).1 hB.size, (hS x hx).2⟩
  have hv1 := hv.below hB (fun x hx => (hS x hx).2)
  have hRow1 := hRow.below hB
  have HC := Lib.hid (hCL ⟨1, i, c, t, b, cs, .nil⟩ v s way wa wn wc (ww w wa wn wc (F64 ob)) hs1 hS1 hv1 hr (show (1 : Int) ≠ 0 by decide) hRow1 hwf (by omega) (hM.1 _ _ _ (by omega) hr1))
  show Calls Tryz.prog 52 _ w (VPA st N abs (vis1 step (abs s) ⟨1, i, c, t, b, cs, .nil⟩ way) s w)
  have hvis := vis_pos (step := step) (s := abs s) (e := ⟨1, i, c, t, b, cs, .nil⟩) (way := way) (show (1 : Int) ≠ 0 by decide)
  generalize vis1 step (abs s) ⟨1, i, c, t, b, cs, .nil⟩ way = res at *
  have HSTP : ∃ r, r = step (abs s) ⟨1, i, c, t, b, cs, .nil⟩ way := ⟨_, rfl⟩
  obtain ⟨r, hrs⟩ := HSTP
  rw [← hrs] at hvis HC hrm
  obtain ⟨a1, b1⟩ := r
  have HVIS := Lib.hid hvis
  have HB := Lib.hid hB
  have HH := Lib.hid (And.intro h1 (And.intro h2 (And.intro (fun e => absurd (hlt _ e) (by omega) : ¬ N s w.heap.size) (fun e => absurd (hlt _ e) (by omega) : ¬ N s (w.heap.size + 1)))))
  have HR1 := Lib.hid (And.intro hRow1 hwf)
  have HV1 := Lib.hid (And.intro hv1 hS1)
  have hmf : ∀ (fn : Fn) (first cap : Array Value) (w : World), (Instr.makeFunc fn first cap).run Tryz.prog w = .ok (.func fn first cap) w := fun _ _ _ _ => rfl
  have x0 := h1.cell 0 rfl
  have y0 := h2.cell 0 rfl
  have hta := fun v w => ta101_4 v w
  have htb := fun v w => ta101_5 v w
  obtain ⟨bl, bn, bc, cl, cn, cc, l, n, cap, q, p, hve, hE, _, hpt⟩ := hv1
  have hve2 : v = .iface 101 (.agg #[.int .i64 c, .string ⟨t.toArray⟩]) := hve
  subst hve2
  have HRM := Lib.hid hrm
  clear hrm hr1 hroom hs hS hv hRow hwf hdeep hd9 hlt hs1 hS1 hRow1 hvis hrs h1 h2 hB hve hE hpt hr hCL
  unfold F64 at *
  go_enter Tryz.func52, Tryz.ntmps52
  go_upto_region 1 with (fail)
  change Code.wp _ _ _ _ (ww w wa wn wc (.func (Fn.func 64) #[] #[.pointer (some ⟨ob, 0, none⟩)]))
  generalize hww : ww w wa wn wc (.func (Fn.func 64) #[] #[.pointer (some ⟨ob, 0, none⟩)]) = w1 at *
  cases b1
  · go_wp2_with (go_at_call 64; (with_reducible refine HC.out.mono ?_); intro e2 w2 hI; obtain ⟨s1, ha1, rfl, hK2⟩ := hI; have HA1 := Lib.hid ha1; have HK2 := Lib.hid hK2; have HW2 := Lib.hid (hK2.blk HH.out.1 HH.out.2.2.1); have HD2 := Lib.hid (hK2.blk HH.out.2.1 HH.out.2.2.2); have HN1 := Lib.hid (hK2.notN HH.out.1.1 HH.out.2.2.1); have HN2 := Lib.hid (hK2.notN HH.out.2.1.1 HH.out.2.2.2); clear hK2 ha1)
    go_ret
    exact ⟨s1, by rw [HVIS.out]; exact HA1.out, by rw [HVIS.out]; rfl, VK.ahead HB.out HK2.out⟩
  · go_wp2_with (go_at_call 64; (with_reducible refine HC.out.mono ?_); intro e2 w2 hI; obtain ⟨s1, ha1, rfl, hK2⟩ := hI; have HA1 := Lib.hid ha1; have HK2 := Lib.hid hK2; have HW2 := Lib.hid (hK2.blk HH.out.1 HH.out.2.2.1); have HD2 := Lib.hid (hK2.blk HH.out.2.1 HH.out.2.2.2); have HN1 := Lib.hid (hK2.notN HH.out.1.1 HH.out.2.2.1); have HN2 := Lib.hid (hK2.notN HH.out.2.1.1 HH.out.2.2.2); clear hK2 ha1)
    go_ret
    exact ⟨s1, by rw [HVIS.out]; exact HA1.out, by rw [HVIS.out]; rfl, VK.ahead HB.out HK2.out⟩
set_option maxRecDepth 100000 in
set_option maxHeartbeats 16000000 in
theorem wa64_2 (hO : VOK st N) (hM : ROK step room) {S : Nat → Prop} {ob : Nat} (hCL : CA64 st N abs step room S ob) {i c : Int} {t : Bs} {b : Dt} {cs : List Int} {v : Value} (hr : rightE ⟨2, i, c, t, b, cs, .nil⟩ = true) : WA1 st N abs step room S (F64 ob) ⟨2, i, c, t, b, cs, .nil⟩ v := by
  intro s way wa wn wc w hs hS hv hRow hwf hdeep hroom
  have hr1 : room (abs s) (1 + esz (.nil)) := by
    rcases hroom with h | h
    · exact h
    · exact absurd (show (2 : Int) = 0 from h) (by decide)
  have hrm : room (step (abs s) ⟨2, i, c, t, b, cs, .nil⟩ way).1 (esz (.nil)) := hM.2 _ _ _ _ (by rw [Nat.add_comm]; exact hr1)
  have hd9 : wn + ehi (.nil) ≤ 1000 := by
    rcases hdeep with h | h
    · exact h
    · exact absurd (show (2 : Int) = 0 from h) (by decide)
  obtain ⟨h1, h2, hB⟩ := ww_facts w wa wn wc (F64 ob)
  have hlt := fun x => hO.2 s w x hs
  have hs1 := hO.1 _ _ _ hs hB
  have hS1 : ∀ x, S x → x < (ww w wa wn wc (F64 ob)).heap.size ∧ ¬ N s x := fun x hx => ⟨Nat.lt_of_lt_of_le (hS x hx).1 hB.size, (hS x hx).2⟩
  have hv1 := hv.below hB (fun x hx => (hS x hx).2)
  have hRow1 := hRow.below hB
  have HC := Lib.hid (hCL ⟨2, i, c, t, b, cs, .nil⟩ v s way wa wn wc (ww w wa wn wc (F64 ob)) hs1 hS1 hv1 hr (show (2 : Int) ≠ 0 by decide) hRow1 hwf (by omega) (hM.1 _ _ _ (by omega) hr1))
  show Calls Tryz.prog 52 _ w (VPA st N abs (vis1 step (abs s) ⟨2, i, c, t, b, cs, .nil⟩ way) s w)
  have hvis := vis_pos (step := step) (s := abs s) (e := ⟨2, i, c, t, b, cs, .nil⟩) (way := way) (show (2 : Int) ≠ 0 by decide)
  generalize vis1 step (abs s) ⟨2, i, c, t, b, cs, .nil⟩ way = res at *
  have HSTP : ∃ r, r = step (abs s) ⟨2, i, c, t, b, cs, .nil⟩ way := ⟨_, rfl⟩
  obtain ⟨r, hrs⟩ := HSTP
  rw [← hrs] at hvis HC hrm
  obtain ⟨a1, b1⟩ := r
  have HVIS := Lib.hid hvis
  have HB := Lib.hid hB
  have HH := Lib.hid (And.intro h1 (And.intro h2 (And.intro (fun e => absurd (hlt _ e) (by omega) : ¬ N s w.heap.size) (fun e => absurd (hlt _ e) (by omega) : ¬ N s (w.heap.size + 1)))))
  have HR1 := Lib.hid (And.intro hRow1 hwf)
  have HV1 := Lib.hid (And.intro hv1 hS1)
  have hmf : ∀ (fn : Fn) (first cap : Array Value) (w : World), (Instr.makeFunc fn first cap).run Tryz.prog w = .ok (.func fn first cap) w := fun _ _ _ _ => rfl
  have x0 := h1.cell 0 rfl
  have y0 := h2.cell 0 rfl
  have hta := fun v w => ta89_4 v w
  have htb := fun v w => ta89_5 v w
  obtain ⟨bl, bn, bc, cl, cn, cc, l, n, cap, q, p, hve, hE, _, hpt⟩ := hv1
  have hve2 : v = .iface 89 (.pointer (some ⟨p, 0, none⟩)) := hve
  subst hve2
  have HRM := Lib.hid hrm
  clear hrm hr1 hroom hs hS hv hRow hwf hdeep hd9 hlt hs1 hS1 hRow1 hvis hrs h1 h2 hB hve hE hpt hr hCL
  unfold F64 at *
  go_enter Tryz.func52, Tryz.ntmps52
  go_upto_region 1 with (fail)
  change Code.wp _ _ _ _ (ww w wa wn wc (.func (Fn.func 64) #[] #[.pointer (some ⟨ob, 0, none⟩)]))
  generalize hww : ww w wa wn wc (.func (Fn.func 64) #[] #[.pointer (some ⟨ob, 0, none⟩)]) = w1 at *
  cases b1
  · go_wp2_with (go_at_call 64; (with_reducible refine HC.out.mono ?_); intro e2 w2 hI; obtain ⟨s1, ha1, rfl, hK2⟩ := hI; have HA1 := Lib.hid ha1; have HK2 := Lib.hid hK2; have HW2 := Lib.hid (hK2.blk HH.out.1 HH.out.2.2.1); have HD2 := Lib.hid (hK2.blk HH.out.2.1 HH.out.2.2.2); have HN1 := Lib.hid (hK2.notN HH.out.1.1 HH.out.2.2.1); have HN2 := Lib.hid (hK2.notN HH.out.2.1.1 HH.out.2.2.2); clear hK2 ha1)
    go_ret
    exact ⟨s1, by rw [HVIS.out]; exact HA1.out, by rw [HVIS.out]; rfl, VK.ahead HB.out HK2.out⟩
  · go_wp2_with (go_at_call 64; (with_reducible refine HC.out.mono ?_); intro e2 w2 hI; obtain ⟨s1, ha1, rfl, hK2⟩ := hI; have HA1 := Lib.hid ha1; have HK2 := Lib.hid hK2; have HW2 := Lib.hid (hK2.blk HH.out.1 HH.out.2.2.1); have HD2 := Lib.hid (hK2.blk HH.out.2.1 HH.out.2.2.2); have HN1 := Lib.hid (hK2.notN HH.out.1.1 HH.out.2.2.1); have HN2 := Lib.hid (hK2.notN HH.out.2.1.1 HH.out.2.2.2); clear hK2 ha1)
    go_ret
    exact ⟨s1, by rw [HVIS.out]; exact HA1.out, by rw [HVIS.out]; rfl, VK.ahead HB.out HK2.out⟩
set_option maxRecDepth 100000 in
set_option maxHeartbeats 16000000 in
theorem wa64_3 (hO : VOK st N) (hM : ROK step room) {S : Nat → Prop} {ob : Nat} (hCL : CA64 st N abs step room S ob) {i c : Int} {t : Bs} {b : Dt} {cs : List Int} {v : Value} {k2 i2 c2 : Int} {t2 : Bs} {b2 : Dt} {cs2 : List Int} {ks : Eo} (hr : rightE ⟨3, i, c, t, b, cs, .cons k2 i2 c2 t2 b2 cs2 ks .nil⟩ = true) (hOK : ∀ v2, WA1 st N abs step room S (F64 ob) ⟨k2, i2, c2, t2, b2, cs2, ks⟩ v2) : WA1 st N abs step room S (F64 ob) ⟨3, i, c, t, b, cs, .cons k2 i2 c2 t2 b2 cs2 ks .nil⟩ v := by
  intro s way wa wn wc w hs hS hv hRow hwf hdeep hroom
  have hr1 : room (abs s) (1 + esz (.cons k2 i2 c2 t2 b2 cs2 ks .nil)) := by
    rcases hroom with h | h
    · exact h
    · exact absurd (show (3 : Int) = 0 from h) (by decide)
  have hrm : room (step (abs s) ⟨3, i, c, t, b, cs, .cons k2 i2 c2 t2 b2 cs2 ks .nil⟩ way).1 (esz (.cons k2 i2 c2 t2 b2 cs2 ks .nil)) := hM.2 _ _ _ _ (by rw [Nat.add_comm]; exact hr1)
  have hd9 : wn + ehi (.cons k2 i2 c2 t2 b2 cs2 ks .nil) ≤ 1000 := by
    rcases hdeep with h | h
    · exact h
    · exact absurd (show (3 : Int) = 0 from h) (by decide)
  obtain ⟨h1, h2, hB⟩ := ww_facts w wa wn wc (F64 ob)
  have hlt := fun x => hO.2 s w x hs
  have hs1 := hO.1 _ _ _ hs hB
  have hS1 : ∀ x, S x → x < (ww w wa wn wc (F64 ob)).heap.size ∧ ¬ N s x := fun x hx => ⟨Nat.lt_of_lt_of_le (hS x hx).1 hB.size, (hS x hx).2⟩
  have hv1 := hv.below hB (fun x hx => (hS x hx).2)
  have hRow1 := hRow.below hB
  have HC := Lib.hid (hCL ⟨3, i, c, t, b, cs, .cons k2 i2 c2 t2 b2 cs2 ks .nil⟩ v s way wa wn wc (ww w wa wn wc (F64 ob)) hs1 hS1 hv1 hr (show (3 : Int) ≠ 0 by decide) hRow1 hwf (by omega) (hM.1 _ _ _ (by omega) hr1))
  show Calls Tryz.prog 52 _ w (VPA st N abs (vis1 step (abs s) ⟨3, i, c, t, b, cs, .cons k2 i2 c2 t2 b2 cs2 ks .nil⟩ way) s w)
  have hvis := vis_pos (step := step) (s := abs s) (e := ⟨3, i, c, t, b, cs, .cons k2 i2 c2 t2 b2 cs2 ks .nil⟩) (way := way) (show (3 : Int) ≠ 0 by decide)
  generalize vis1 step (abs s) ⟨3, i, c, t, b, cs, .cons k2 i2 c2 t2 b2 cs2 ks .nil⟩ way = res at *
  have HSTP : ∃ r, r = step (abs s) ⟨3, i, c, t, b, cs, .cons k2 i2 c2 t2 b2 cs2 ks .nil⟩ way := ⟨_, rfl⟩
  obtain ⟨r, hrs⟩ := HSTP
  rw [← hrs] at hvis HC hrm
  obtain ⟨a1, b1⟩ := r
  have HVIS := Lib.hid hvis
  have HB := Lib.hid hB
  have HH := Lib.hid (And.intro h1 (And.intro h2 (And.intro (fun e => absurd (hlt _ e) (by omega) : ¬ N s w.heap.size) (fun e => absurd (hlt _ e) (by omega) : ¬ N s (w.heap.size + 1)))))
  have HR1 := Lib.hid (And.intro hRow1 hwf)
  have HV1 := Lib.hid (And.intro hv1 hS1)
  have hmf : ∀ (fn : Fn) (first cap : Array Value) (w : World), (Instr.makeFunc fn first cap).run Tryz.prog w = .ok (.func fn first cap) w := fun _ _ _ _ => rfl
  have x0 := h1.cell 0 rfl
  have y0 := h2.cell 0 rfl
  have hta := fun v w => ta102_4 v w
  have htb := fun v w => ta102_5 v w
  have hmu := fun v w => m102u v w
  obtain ⟨bl, bn, bc, cl, cn, cc, l, n, cap, q, p, hve, hE, _, hpt⟩ := hv1
  have hve2 : v = .iface 102 (.pointer (some ⟨p, 0, none⟩)) := hve
  subst hve2
  have hP := hpt (.inr (.inl rfl))
  have HCU := Lib.hid (fun (s1 : σ) (wx : World) (hx : VK st N s s1 (ww w wa wn wc (F64 ob)) wx) => unw149 (S := S) (N := N s1) (hx.blk hP.1 hP.2) ((hE.same (fun x hx' _ => hx.2.1.block x (hS1 x hx').1 (hS1 x hx').2) (fun x hx' _ => hx')).2.2) (fun x e => hO.2 s1 wx x hx.1 e))
  have HCN := Lib.hid (fun (s1 : σ) (ha : abs s1 = a1) (wx : World) (v2 : Value) (hst : st s1 wx) (hSN : ∀ x, S x → x < wx.heap.size ∧ ¬ N s1 x) (hvv : EVAt S (N s1) wx ⟨k2, i2, c2, t2, b2, cs2, ks⟩ v2) (hrw : Row 0 wx 1 wa wn wc (I8 way)) (hw : Blk wx w.heap.size [.slice wa wn wc]) (hd : Blk wx (w.heap.size + 1) [(F64 ob)]) (hn1 : ¬ N s1 w.heap.size) (hn2 : ¬ N s1 (w.heap.size + 1)) =>
    (show Calls Tryz.prog 83 #[.int .i64 0, v2, .pointer (some ⟨w.heap.size, 0, none⟩), .pointer (some ⟨w.heap.size + 1, 0, none⟩)] wx (VPA st N abs (vis1 step a1 ⟨k2, i2, c2, t2, b2, cs2, ks⟩ (way ++ [((0 : Nat) : Int)])) s1 wx) from by rw [← ha]; exact next83a hO (hOK v2) hst hSN hvv hrw (by have h9 := hd9; simp only [ehi] at h9; exact ⟨by omega, .inl (by omega)⟩) hw hd hn1 hn2 (.inl (by rw [ha]; exact hM.1 _ _ _ (by simp only [esz]; omega) hrm)) 0))
  rw [visL_one] at HVIS
  generalize vis1 step a1 ⟨k2, i2, c2, t2, b2, cs2, ks⟩ (way ++ [((0 : Nat) : Int)]) = r2 at *
  have HRM := Lib.hid hrm
  clear hrm hr1 hroom hs hS hv hRow hwf hdeep hd9 hlt hs1 hS1 hRow1 hvis hrs h1 h2 hB hve hE hpt hr hCL hP hOK
  unfold F64 at *
  go_enter Tryz.func52, Tryz.ntmps52
  go_upto_region 1 with (fail)
  change Code.wp _ _ _ _ (ww w wa wn wc (.func (Fn.func 64) #[] #[.pointer (some ⟨ob, 0, none⟩)]))
  generalize hww : ww w wa wn wc (.func (Fn.func 64) #[] #[.pointer (some ⟨ob, 0, none⟩)]) = w1 at *
  cases b1
  · go_wp2_with (go_at_call 64; (with_reducible refine HC.out.mono ?_); intro e2 w2 hI; obtain ⟨s1, ha1, rfl, hK2⟩ := hI; have HA1 := Lib.hid ha1; have HK2 := Lib.hid hK2; have HW2 := Lib.hid (hK2.blk HH.out.1 HH.out.2.2.1); have HD2 := Lib.hid (hK2.blk HH.out.2.1 HH.out.2.2.2); have HN1 := Lib.hid (hK2.notN HH.out.1.1 HH.out.2.2.1); have HN2 := Lib.hid (hK2.notN HH.out.2.1.1 HH.out.2.2.2); clear hK2 ha1)
    go_ret
    exact ⟨s1, by rw [HVIS.out]; exact HA1.out, by rw [HVIS.out]; rfl, VK.ahead HB.out HK2.out⟩
  · go_upto_region 9 with (go_at_call 64; (with_reducible refine HC.out.mono ?_); intro e2 w2 hI; obtain ⟨s1, ha1, rfl, hK2⟩ := hI; have HA1 := Lib.hid ha1; have HK2 := Lib.hid hK2; have HW2 := Lib.hid (hK2.blk HH.out.1 HH.out.2.2.1); have HD2 := Lib.hid (hK2.blk HH.out.2.1 HH.out.2.2.2); have HN1 := Lib.hid (hK2.notN HH.out.1.1 HH.out.2.2.1); have HN2 := Lib.hid (hK2.notN HH.out.2.1.1 HH.out.2.2.2); clear hK2 ha1)
    go_wp2_with (first
      | (go_at_call 149; (with_reducible refine (HCU.out _ _ HK2.out).mono ?_); rintro e3 w3 ⟨v3, rfl, hv3, hB3⟩; have HV3 := Lib.hid hv3; have HB3 := Lib.hid hB3; have HK3 := Lib.hid (VK.calm hO HK2.out hB3); clear hv3 hB3)
      | (go_at_call 83; (with_reducible refine (HCN.out _ HA1.out _ _ HK3.out.s' (SN.vk HK3.out HV1.out.2) HV3.out (HR1.out.1.keep HK3.out.k (fun x hx => HR1.out.2 x hx)) (HW2.out.below HB3.out) (HD2.out.below HB3.out) HN1.out HN2.out).mono ?_); intro e4 w4 hI; obtain ⟨s4, ha4, rfl, hK4⟩ := hI; have HA4 := Lib.hid ha4; have HK4 := Lib.hid hK4; clear hK4 ha4))
    go_ret
    exact ⟨s4, by rw [HVIS.out]; exact HA4.out, by rw [HVIS.out]; rfl, VK.ahead HB.out (VK.trans HK3.out HK4.out)⟩
set_option maxRecDepth 100000 in
set_option maxHeartbeats 16000000 in
theorem wa64_4 (hO : VOK st N) (hM : ROK step room) {S : Nat → Prop} {ob : Nat} (hCL : CA64 st N abs step room S ob) {i c : Int} {t : Bs} {b : Dt} {cs : List Int} {v : Value} {kids : Eo} (hr : rightE ⟨4, i, c, t, b, cs, kids⟩ = true) (hall : kids.All (WAOK st N abs step room S (F64 ob))) (hrr : rrightL true kids = true) (hm : kids.len ≤ 4096) : WA1 st N abs step room S (F64 ob) ⟨4, i, c, t, b, cs, kids⟩ v := by
  intro s way wa wn wc w hs hS hv hRow hwf hdeep hroom
  have hr1 : room (abs s) (1 + esz (kids)) := by
    rcases hroom with h | h
    · exact h
    · exact absurd (show (4 : Int) = 0 from h) (by decide)
  have hrm : room (step (abs s) ⟨4, i, c, t, b, cs, kids⟩ way).1 (esz (kids)) := hM.2 _ _ _ _ (by rw [Nat.add_comm]; exact hr1)
  have hd9 : wn + ehi (kids) ≤ 1000 := by
    rcases hdeep with h | h
    · exact h
    · exact absurd (show (4 : Int) = 0 from h) (by decide)
  obtain ⟨h1, h2, hB⟩ := ww_facts w wa wn wc (F64 ob)
  have hlt := fun x => hO.2 s w x hs
  have hs1 := hO.1 _ _ _ hs hB
  have hS1 : ∀ x, S x → x < (ww w wa wn wc (F64 ob)).heap.size ∧ ¬ N s x := fun x hx => ⟨Nat.lt_of_lt_of_le (hS x hx).1 hB.size, (hS x hx).2⟩
  have hv1 := hv.below hB (fun x hx => (hS x hx).2)
  have hRow1 := hRow.below hB
  have HC := Lib.hid (hCL ⟨4, i, c, t, b, cs, kids⟩ v s way wa wn wc (ww w wa wn wc (F64 ob)) hs1 hS1 hv1 hr (show (4 : Int) ≠ 0 by decide) hRow1 hwf (by omega) (hM.1 _ _ _ (by omega) hr1))
  show Calls Tryz.prog 52 _ w (VPA st N abs (vis1 step (abs s) ⟨4, i, c, t, b, cs, kids⟩ way) s w)
  have hvis := vis_pos (step := step) (s := abs s) (e := ⟨4, i, c, t, b, cs, kids⟩) (way := way) (show (4 : Int) ≠ 0 by decide)
  generalize vis1 step (abs s) ⟨4, i, c, t, b, cs, kids⟩ way = res at *
  have HSTP : ∃ r, r = step (abs s) ⟨4, i, c, t, b, cs, kids⟩ way := ⟨_, rfl⟩
  obtain ⟨r, hrs⟩ := HSTP
  rw [← hrs] at hvis HC hrm
  obtain ⟨a1, b1⟩ := r
  have HVIS := Lib.hid hvis
  have HB := Lib.hid hB
  have HH := Lib.hid (And.intro h1 (And.intro h2 (And.intro (fun e => absurd (hlt _ e) (by omega) : ¬ N s w.heap.size) (fun e => absurd (hlt _ e) (by omega) : ¬ N s (w.heap.size + 1)))))
  have HR1 := Lib.hid (And.intro hRow1 hwf)
  have HV1 := Lib.hid (And.intro hv1 hS1)
  have hmf : ∀ (fn : Fn) (first cap : Array Value) (w : World), (Instr.makeFunc fn first cap).run Tryz.prog w = .ok (.func fn first cap) w := fun _ _ _ _ => rfl
  have x0 := h1.cell 0 rfl
  have y0 := h2.cell 0 rfl
  have hta := fun v w => ta103_4 v w
  have htb := fun v w => ta103_5 v w
  have hmu := fun v w => m103u v w
  obtain ⟨bl, bn, bc, cl, cn, cc, l, n, cap, q, p, hve, hE, _, hpt⟩ := hv1
  have hve2 : v = .iface 103 (.pointer (some ⟨p, 0, none⟩)) := hve
  subst hve2
  have hP := hpt (.inr (.inr (.inl rfl)))
  have hnl : kids.len = n := hE.2.2.len
  have HCU := Lib.hid (fun (s1 : σ) (wx : World) (hx : VK st N s s1 (ww w wa wn wc (F64 ob)) wx) => unw153 (S := S) (N := N s1) (kids := kids) (hx.blk hP.1 hP.2) ((hE.same (fun x hx' _ => hx.2.1.block x (hS1 x hx').1 (hS1 x hx').2) (fun x hx' _ => hx')).2.2) (SN.vk hx hS1) (fun x e => hO.2 s1 wx x hx.1 e) (by omega))
  have HCN := Lib.hid (fun (k2 i2 c2 : Int) (t2 : Bs) (b2 : Dt) (cs2 : List Int) (ks : Eo) (v2 : Value) (s2 : σ) (wx : World) (hok : WA1 st N abs step room S (F64 ob) ⟨k2, i2, c2, t2, b2, cs2, ks⟩ v2) (hst : st s2 wx) (hSN : ∀ x, S x → x < wx.heap.size ∧ ¬ N s2 x) (hvv : EVAt S (N s2) wx ⟨k2, i2, c2, t2, b2, cs2, ks⟩ v2) (hrw : Row 0 wx 1 wa wn wc (I8 way)) (hw : Blk wx w.heap.size [.slice wa wn wc]) (hd : Blk wx (w.heap.size + 1) [(F64 ob)]) (hn1 : ¬ N s2 w.heap.size) (hn2 : ¬ N s2 (w.heap.size + 1)) (hb : wn + 1 + ehi ks ≤ 1000) (hrr2 : room (abs s2) (1 + esz ks)) (j : Int) =>
    next83a hO hok hst hSN hvv hrw ⟨by omega, .inl hb⟩ hw hd hn1 hn2 (.inl hrr2) j)
  have HALL := Lib.hid (And.intro hall (And.intro hrr (And.intro hm hd9)))
  have HRM := Lib.hid hrm
  clear hrm hr1 hroom hs hS hv hRow hwf hdeep hd9 hlt hs1 hS1 hRow1 hvis hrs h1 h2 hB hve hE hpt hr hCL hP hall hrr hm hnl
  unfold F64 at *
  go_enter Tryz.func52, Tryz.ntmps52
  go_upto_region 1 with (fail)
  change Code.wp _ _ _ _ (ww w wa wn wc (.func (Fn.func 64) #[] #[.pointer (some ⟨ob, 0, none⟩)]))
  generalize hww : ww w wa wn wc (.func (Fn.func 64) #[] #[.pointer (some ⟨ob, 0, none⟩)]) = w1 at *
  cases b1
  · go_wp2_with (go_at_call 64; (with_reducible refine HC.out.mono ?_); intro e2 w2 hI; obtain ⟨s1, ha1, rfl, hK2⟩ := hI; have HA1 := Lib.hid ha1; have HK2 := Lib.hid hK2; have HW2 := Lib.hid (hK2.blk HH.out.1 HH.out.2.2.1); have HD2 := Lib.hid (hK2.blk HH.out.2.1 HH.out.2.2.2); have HN1 := Lib.hid (hK2.notN HH.out.1.1 HH.out.2.2.1); have HN2 := Lib.hid (hK2.notN HH.out.2.1.1 HH.out.2.2.2); clear hK2 ha1)
    go_ret
    exact ⟨s1, by rw [HVIS.out]; exact HA1.out, by rw [HVIS.out]; rfl, VK.ahead HB.out HK2.out⟩
  · go_upto_region 12 with (go_at_call 64; (with_reducible refine HC.out.mono ?_); intro e2 w2 hI; obtain ⟨s1, ha1, rfl, hK2⟩ := hI; have HA1 := Lib.hid ha1; have HK2 := Lib.hid hK2; have HW2 := Lib.hid (hK2.blk HH.out.1 HH.out.2.2.1); have HD2 := Lib.hid (hK2.blk HH.out.2.1 HH.out.2.2.2); have HN1 := Lib.hid (hK2.notN HH.out.1.1 HH.out.2.2.1); have HN2 := Lib.hid (hK2.notN HH.out.2.1.1 HH.out.2.2.2); clear hK2 ha1)
    have HR0 := Lib.hid (show visL step kids a1 way 0 = res by rw [HVIS.out]; rfl)
    generalize hFV : (Value.func (Fn.func 64) #[] #[.pointer (some ⟨ob, 0, none⟩)]) = FV at *
    go_upto_block 1 with (go_at_call 153; (with_reducible refine (HCU.out _ _ HK2.out).mono ?_); rintro e3 w3 ⟨a3, c3, vs, rfl, hR3, hV3, hB3⟩; have HK3 := Lib.hid (VK.calm hO HK2.out hB3); have HW3 := Lib.hid (HW2.out.below hB3); have HD3 := Lib.hid (HD2.out.below hB3); have HV3 := Lib.hid hV3; have HR3 := Lib.hid (hR3.mono (Nat.zero_le _)); have HA3 := Lib.hid (show ∀ x, blockOf a3 = some x → ¬ N s1 x from fun x hx e => by have h9 := (hR3.lt x hx).1; have h8 := hO.2 _ _ _ HK2.out.s' e; omega); clear hR3 hV3 hB3)
    have HM := Lib.hid (show kids.len ≤ 4096 from HALL.out.2.2.1)
    go_wp2_with fail
    go_loopw [34] (fun t34 wr => WmA st N abs step room S w.heap.size FV kids s way (.slice wa wn wc) a3 kids.len c3 vs w1 res t34 wr) (fun t34 _ => kids.len - (intOf t34).toNat)
    case atStart => exact ⟨.nil, kids, s1, rfl, rfl, HV3.out, HK3.out, HW3.out, HD3.out, HN1.out, HN2.out, HR3.out, HA3.out, by rw [HA1.out]; exact HR0.out, by rw [HA1.out]; exact HRM.out⟩
    case round =>
      obtain ⟨dn, rest, s2, rfl, hk, hEV, hKr, hWr, hDr, hn1, hn2, hRr, hAr, hq, hrw⟩ := hrel
      have hlen : kids.len = dn.len + rest.len := by rw [hk, Eo.len_app]
      cases rest with
      | nil =>
        have hj : ¬ (dn.len : Int) < (kids.len : Int) := by have : Eo.len .nil = 0 := rfl; omega
        have HQ := Lib.hid hq
        have HKr := Lib.hid hKr
        clear hk hEV hKr hWr hDr hRr hAr hq hlen hn1 hn2 hrw
        generalize kids.len = m at *
        go_wp2_with fail
        go_ret
        exact ⟨s2, by rw [← HQ.out]; rfl, by rw [← HQ.out]; rfl, VK.ahead HB.out HKr.out⟩
      | cons k2 i2 c2 t2 b2 cs2 ks r2 =>
        have hlr : (Eo.cons k2 i2 c2 t2 b2 cs2 ks r2).len = r2.len + 1 := rfl
        have hjn : dn.len < kids.len := by omega
        have hj : (dn.len : Int) < (kids.len : Int) := by omega
        obtain ⟨v2, vs2, hvs, hv2, hEV2⟩ := hEV
        have hget : vs[dn.len]? = some v2 := by
          have h := congrArg (fun l => l[0]?) hvs
          simpa [List.getElem?_drop] using h
        have hd2 : vs.drop (dn.len + 1) = vs2 := by
          rw [← List.drop_drop, hvs]
          rfl
        obtain ⟨bb, off, rfl, hltb, hcell⟩ : ∃ b off, a3 = some ⟨b, off, none⟩ ∧ b < wr.heap.size ∧ wr.cell? ⟨b, off + dn.len, none⟩ = some v2 := by
          obtain ⟨b, off, ha, hb, hc⟩ := hRr.rd.at (k := dn.len) hjn
          have h := hc 0 (by omega)
          exact ⟨b, off, ha, hb, by rw [Nat.mul_one, Nat.add_zero] at h; rw [h]; exact hget⟩
        have hOK : WA1 st N abs step room S FV ⟨k2, i2, c2, t2, b2, cs2, ks⟩ v2 := by
          have hal := HALL.out.1
          rw [hk] at hal
          refine (Eo.All.split dn hal).1 k2 i2 c2 t2 b2 cs2 v2 ?_
          have h := HALL.out.2.1
          rw [hk] at h
          have h3 := rrightL_app true dn h
          rw [rrightL, Bool.and_eq_true, Bool.and_eq_true] at h3
          exact h3.1.2
        have hbd : wn + 1 + ehi ks ≤ 1000 := by
          have h := HALL.out.2.2.2
          rw [hk] at h
          have h4 := ehi_app dn (g := .cons k2 i2 c2 t2 b2 cs2 ks r2)
          simp only [ehi] at h4
          omega
        have hSr := SN.vk hKr HV1.out.2
        have HC2 := Lib.hid (HCN.out k2 i2 c2 t2 b2 cs2 ks v2 s2 wr hOK hKr.s' hSr hv2 (HR1.out.1.keep hKr.k (fun x hx => HR1.out.2 x hx)) hWr hDr hn1 hn2 hbd (hM.1 _ _ _ (by simp only [esz]; omega) hrw) (dn.len : Nat))
        rw [visL_cons] at hq
        have hrv := hM.vis (e := ⟨k2, i2, c2, t2, b2, cs2, ks⟩) (way := way ++ [((dn.len : Nat) : Int)]) (m := esz r2) (fun a way j m h => hM.row ks a way j m h) (show room (abs s2) (1 + esz ks + esz r2) from hrw)
        generalize vis1 step (abs s2) ⟨k2, i2, c2, t2, b2, cs2, ks⟩ (way ++ [((dn.len : Nat) : Int)]) = r3 at *
        obtain ⟨a5, b3⟩ := r3
        have HRV := Lib.hid hrv
        have HRR := Lib.hid (And.intro hKr (And.intro hWr (And.intro hDr (And.intro hRr (And.intro hEV2 (And.intro hn1 (And.intro hn2 (And.intro hAr hSr))))))))
        have HQ := Lib.hid hq
        have HKK := Lib.hid hk
        have HD2' := Lib.hid hd2
        have HJ := Lib.hid hjn
        have x9 := hWr.cell 0 rfl
        have hsz := HM.out
        clear hEV2 hKr hWr hDr hRr hAr hq hk hlen hlr hvs hv2 hget hd2 hOK hbd hltb hn1 hn2 hSr hrw hrv
        generalize hjj : dn.len = j at *
        have HJJ := Lib.hid hjj
        clear hjj
        cases b3
        · go_wp2_with (go_at_call 83; (with_reducible refine HC2.out.mono ?_); intro e4 w4 hI; obtain ⟨s4, ha4, rfl, hK4⟩ := hI; have HA4 := Lib.hid ha4; have HK4 := Lib.hid hK4; clear hK4 ha4)
          go_ret
          exact ⟨s4, by rw [← HQ.out]; exact HA4.out, by rw [← HQ.out]; rfl, VK.ahead HB.out (VK.trans HRR.out.1 HK4.out)⟩
        · go_wp2_with (go_at_call 83; (with_reducible refine HC2.out.mono ?_); intro e4 w4 hI; obtain ⟨s4, ha4, rfl, hK4⟩ := hI; have HA4 := Lib.hid ha4; have HK4 := Lib.hid hK4; clear hK4 ha4)
          go_roundw
          case rel =>
            obtain ⟨hKr, hWr, hDr, hRr, hEV2, hn1, hn2, hAr, hSr⟩ := HRR.out
            have hl2 : (dn.app (.cons k2 i2 c2 t2 b2 cs2 ks .nil)).len = j + 1 := by rw [Eo.len_app, HJJ.out, show (Eo.cons k2 i2 c2 t2 b2 cs2 ks .nil).len = 1 from rfl]
            refine ⟨dn.app (.cons k2 i2 c2 t2 b2 cs2 ks .nil), r2, s4, ?_, ?_, ?_, VK.trans hKr HK4.out, HK4.out.blk hWr hn1, HK4.out.blk hDr hn2, HK4.out.notN hWr.1 hn1, HK4.out.notN hDr.1 hn2, hRr.keep HK4.out.k (fun x hx => hAr x hx), fun x hx => HK4.out.notN (hRr.lt x hx).2 (hAr x hx), by rw [hl2, HA4.out, ← HQ.out]; rfl, by rw [HA4.out]; exact HRV.out⟩
            · rw [hl2]; go_num
            · rw [Eo.app_assoc]; exact HKK.out
            · rw [hl2, HD2'.out]; exact EVs.map (fun e u hu => hu.vk HK4.out hSr) _ hEV2
          case measure => simp [intOf]; have := HJ.out; omega
set_option maxRecDepth 100000 in
set_option maxHeartbeats 16000000 in
theorem wa64_5 (hO : VOK st N) (hM : ROK step room) {S : Nat → Prop} {ob : Nat} (hCL : CA64 st N abs step room S ob) {i c : Int} {t : Bs} {b : Dt} {cs : List Int} {v : Value} (hr : rightE ⟨5, i, c, t, b, cs, .nil⟩ = true) : WA1 st N abs step room S (F64 ob) ⟨5, i, c, t, b, cs, .nil⟩ v := by
  intro s way wa wn wc w hs hS hv hRow hwf hdeep hroom
  have hr1 : room (abs s) (1 + esz (.nil)) := by
    rcases hroom with h | h
    · exact h
    · exact absurd (show (5 : Int) = 0 from h) (by decide)
  have hrm : room (step (abs s) ⟨5, i, c, t, b, cs, .nil⟩ way).1 (esz (.nil)) := hM.2 _ _ _ _ (by rw [Nat.add_comm]; exact hr1)
  have hd9 : wn + ehi (.nil) ≤ 1000 := by
    rcases hdeep with h | h
    · exact h
    · exact absurd (show (5 : Int) = 0 from h) (by decide)
  obtain ⟨h1, h2, hB⟩ := ww_facts w wa wn wc (F64 ob)
  have hlt := fun x => hO.2 s w x hs
  have hs1 := hO.1 _ _ _ hs hB
  have hS1 : ∀ x, S x → x < (ww w wa wn wc (F64 ob)).heap.size ∧ ¬ N s x := fun x hx => ⟨Nat.lt_of_lt_of_le (hS x hx).1 hB.size, (hS x hx).2⟩
  have hv1 := hv.below hB (fun x hx => (hS x hx).2)
  have hRow1 := hRow.below hB
  have HC := Lib.hid (hCL ⟨5, i, c, t, b, cs, .nil⟩ v s way wa wn wc (ww w wa wn wc (F64 ob)) hs1 hS1 hv1 hr (show (5 : Int) ≠ 0 by decide) hRow1 hwf (by omega) (hM.1 _ _ _ (by omega) hr1))
  show Calls Tryz.prog 52 _ w (VPA st N abs (vis1 step (abs s) ⟨5, i, c, t, b, cs, .nil⟩ way) s w)
  have hvis := vis_pos (step := step) (s := abs s) (e := ⟨5, i, c, t, b, cs, .nil⟩) (way := way) (show (5 : Int) ≠ 0 by decide)
  generalize vis1 step (abs s) ⟨5, i, c, t, b, cs, .nil⟩ way = res at *
  have HSTP : ∃ r, r = step (abs s) ⟨5, i, c, t, b, cs, .nil⟩ way := ⟨_, rfl⟩
  obtain ⟨r, hrs⟩ := HSTP
  rw [← hrs] at hvis HC hrm
  obtain ⟨a1, b1⟩ := r
  have HVIS := Lib.hid hvis
  have HB := Lib.hid hB
  have HH := Lib.hid (And.intro h1 (And.intro h2 (And.intro (fun e => absurd (hlt _ e) (by omega) : ¬ N s w.heap.size) (fun e => absurd (hlt _ e) (by omega) : ¬ N s (w.heap.size + 1)))))
  have HR1 := Lib.hid (And.intro hRow1 hwf)
  have HV1 := Lib.hid (And.intro hv1 hS1)
  have hmf : ∀ (fn : Fn) (first cap : Array Value) (w : World), (Instr.makeFunc fn first cap).run Tryz.prog w = .ok (.func fn first cap) w := fun _ _ _ _ => rfl
  have x0 := h1.cell 0 rfl
  have y0 := h2.cell 0 rfl
  have hta := fun v w => ta106_4 v w
  have htb := fun v w => ta106_5 v w
  obtain ⟨bl, bn, bc, cl, cn, cc, l, n, cap, q, p, hve, hE, _, hpt⟩ := hv1
  have hve2 : v = .iface 106 (.agg #[.pointer (some ⟨q, 0, none⟩)]) := hve
  subst hve2
  have HRM := Lib.hid hrm
  clear hrm hr1 hroom hs hS hv hRow hwf hdeep hd9 hlt hs1 hS1 hRow1 hvis hrs h1 h2 hB hve hE hpt hr hCL
  unfold F64 at *
  go_enter Tryz.func52, Tryz.ntmps52
  go_upto_region 1 with (fail)
  change Code.wp _ _ _ _ (ww w wa wn wc (.func (Fn.func 64) #[] #[.pointer (some ⟨ob, 0, none⟩)]))
  generalize hww : ww w wa wn wc (.func (Fn.func 64) #[] #[.pointer (some ⟨ob, 0, none⟩)]) = w1 at *
  cases b1
  · go_wp2_with (go_at_call 64; (with_reducible refine HC.out.mono ?_); intro e2 w2 hI; obtain ⟨s1, ha1, rfl, hK2⟩ := hI; have HA1 := Lib.hid ha1; have HK2 := Lib.hid hK2; have HW2 := Lib.hid (hK2.blk HH.out.1 HH.out.2.2.1); have HD2 := Lib.hid (hK2.blk HH.out.2.1 HH.out.2.2.2); have HN1 := Lib.hid (hK2.notN HH.out.1.1 HH.out.2.2.1); have HN2 := Lib.hid (hK2.notN HH.out.2.1.1 HH.out.2.2.2); clear hK2 ha1)
    go_ret
    exact ⟨s1, by rw [HVIS.out]; exact HA1.out, by rw [HVIS.out]; rfl, VK.ahead HB.out HK2.out⟩
  · go_wp2_with (go_at_call 64; (with_reducible refine HC.out.mono ?_); intro e2 w2 hI; obtain ⟨s1, ha1, rfl, hK2⟩ := hI; have HA1 := Lib.hid ha1; have HK2 := Lib.hid hK2; have HW2 := Lib.hid (hK2.blk HH.out.1 HH.out.2.2.1); have HD2 := Lib.hid (hK2.blk HH.out.2.1 HH.out.2.2.2); have HN1 := Lib.hid (hK2.notN HH.out.1.1 HH.out.2.2.1); have HN2 := Lib.hid (hK2.notN HH.out.2.1.1 HH.out.2.2.2); clear hK2 ha1)
    go_ret
    exact ⟨s1, by rw [HVIS.out]; exact HA1.out, by rw [HVIS.out]; rfl, VK.ahead HB.out HK2.out⟩
set_option maxRecDepth 100000 in
set_option maxHeartbeats 16000000 in
theorem wa64_6 (hO : VOK st N) (hM : ROK step room) {S : Nat → Prop} {ob : Nat} (hCL : CA64 st N abs step room S ob) {i c : Int} {t : Bs} {b : Dt} {cs : List Int} {v : Value} (hr : rightE ⟨6, i, c, t, b, cs, .nil⟩ = true) : WA1 st N abs step room S (F64 ob) ⟨6, i, c, t, b, cs, .nil⟩ v := by
  intro s way wa wn wc w hs hS hv hRow hwf hdeep hroom
  have hr1 : room (abs s) (1 + esz (.nil)) := by
    rcases hroom with h | h
    · exact h
    · exact absurd (show (6 : Int) = 0 from h) (by decide)
  have hrm : room (step (abs s) ⟨6, i, c, t, b, cs, .nil⟩ way).1 (esz (.nil)) := hM.2 _ _ _ _ (by rw [Nat.add_comm]; exact hr1)
  have hd9 : wn + ehi (.nil) ≤ 1000 := by
    rcases hdeep with h | h
    · exact h
    · exact absurd (show (6 : Int) = 0 from h) (by decide)
  obtain ⟨h1, h2, hB⟩ := ww_facts w wa wn wc (F64 ob)
  have hlt := fun x => hO.2 s w x hs
  have hs1 := hO.1 _ _ _ hs hB
  have hS1 : ∀ x, S x → x < (ww w wa wn wc (F64 ob)).heap.size ∧ ¬ N s x := fun x hx => ⟨Nat.lt_of_lt_of_le (hS x hx).1 hB.size, (hS x hx).2⟩
  have hv1 := hv.below hB (fun x hx => (hS x hx).2)
  have hRow1 := hRow.below hB
  have HC := Lib.hid (hCL ⟨6, i, c, t, b, cs, .nil⟩ v s way wa wn wc (ww w wa wn wc (F64 ob)) hs1 hS1 hv1 hr (show (6 : Int) ≠ 0 by decide) hRow1 hwf (by omega) (hM.1 _ _ _ (by omega) hr1))
  show Calls Tryz.prog 52 _ w (VPA st N abs (vis1 step (abs s) ⟨6, i, c, t, b, cs, .nil⟩ way) s w)
  have hvis := vis_pos (step := step) (s := abs s) (e := ⟨6, i, c, t, b, cs, .nil⟩) (way := way) (show (6 : Int) ≠ 0 by decide)
  generalize vis1 step (abs s) ⟨6, i, c, t, b, cs, .nil⟩ way = res at *
  have HSTP : ∃ r, r = step (abs s) ⟨6, i, c, t, b, cs, .nil⟩ way := ⟨_, rfl⟩
  obtain ⟨r, hrs⟩ := HSTP
  rw [← hrs] at hvis HC hrm
  obtain ⟨a1, b1⟩ := r
  have HVIS := Lib.hid hvis
  have HB := Lib.hid hB
  have HH := Lib.hid (And.intro h1 (And.intro h2 (And.intro (fun e => absurd (hlt _ e) (by omega) : ¬ N s w.heap.size) (fun e => absurd (hlt _ e) (by omega) : ¬ N s (w.heap.size + 1)))))
  have HR1 := Lib.hid (And.intro hRow1 hwf)
  have HV1 := Lib.hid (And.intro hv1 hS1)
  have hmf : ∀ (fn : Fn) (first cap : Array Value) (w : World), (Instr.makeFunc fn first cap).run Tryz.prog w = .ok (.func fn first cap) w := fun _ _ _ _ => rfl
  have x0 := h1.cell 0 rfl
  have y0 := h2.cell 0 rfl
  have hta := fun v w => ta107_4 v w
  have htb := fun v w => ta107_5 v w
  obtain ⟨bl, bn, bc, cl, cn, cc, l, n, cap, q, p, hve, hE, _, hpt⟩ := hv1
  have hve2 : v = .iface 107 (.slice cl cn cc) := hve
  subst hve2
  have HRM := Lib.hid hrm
  clear hrm hr1 hroom hs hS hv hRow hwf hdeep hd9 hlt hs1 hS1 hRow1 hvis hrs h1 h2 hB hve hE hpt hr hCL
  unfold F64 at *
  go_enter Tryz.func52, Tryz.ntmps52
  go_upto_region 1 with (fail)
  change Code.wp _ _ _ _ (ww w wa wn wc (.func (Fn.func 64) #[] #[.pointer (some ⟨ob, 0, none⟩)]))
  generalize hww : ww w wa wn wc (.func (Fn.func 64) #[] #[.pointer (some ⟨ob, 0, none⟩)]) = w1 at *
  cases b1
  · go_wp2_with (go_at_call 64; (with_reducible refine HC.out.mono ?_); intro e2 w2 hI; obtain ⟨s1, ha1, rfl, hK2⟩ := hI; have HA1 := Lib.hid ha1; have HK2 := Lib.hid hK2; have HW2 := Lib.hid (hK2.blk HH.out.1 HH.out.2.2.1); have HD2 := Lib.hid (hK2.blk HH.out.2.1 HH.out.2.2.2); have HN1 := Lib.hid (hK2.notN HH.out.1.1 HH.out.2.2.1); have HN2 := Lib.hid (hK2.notN HH.out.2.1.1 HH.out.2.2.2); clear hK2 ha1)
    go_ret
    exact ⟨s1, by rw [HVIS.out]; exact HA1.out, by rw [HVIS.out]; rfl, VK.ahead HB.out HK2.out⟩
  · go_wp2_with (go_at_call 64; (with_reducible refine HC.out.mono ?_); intro e2 w2 hI; obtain ⟨s1, ha1, rfl, hK2⟩ := hI; have HA1 := Lib.hid ha1; have HK2 := Lib.hid hK2; have HW2 := Lib.hid (hK2.blk HH.out.1 HH.out.2.2.1); have HD2 := Lib.hid (hK2.blk HH.out.2.1 HH.out.2.2.2); have HN1 := Lib.hid (hK2.notN HH.out.1.1 HH.out.2.2.1); have HN2 := Lib.hid (hK2.notN HH.out.2.1.1 HH.out.2.2.2); clear hK2 ha1)
    go_ret
    exact ⟨s1, by rw [HVIS.out]; exact HA1.out, by rw [HVIS.out]; rfl, VK.ahead HB.out HK2.out⟩
set_option maxRecDepth 100000 in
set_option maxHeartbeats 16000000 in
theorem wa64_7 (hO : VOK st N) (hM : ROK step room) {S : Nat → Prop} {ob : Nat} (hCL : CA64 st N abs step room S ob) {i c : Int} {t : Bs} {b : Dt} {cs : List Int} {v : Value} (hr : rightE ⟨7, i, c, t, b, cs, .nil⟩ = true) : WA1 st N abs step room S (F64 ob) ⟨7, i, c, t, b, cs, .nil⟩ v := by
  intro s way wa wn wc w hs hS hv hRow hwf hdeep hroom
  have hr1 : room (abs s) (1 + esz (.nil)) := by
    rcases hroom with h | h
    · exact h
    · exact absurd (show (7 : Int) = 0 from h) (by decide)
  have hrm : room (step (abs s) ⟨7, i, c, t, b, cs, .nil⟩ way).1 (esz (.nil)) := hM.2 _ _ _ _ (by rw [Nat.add_comm]; exact hr1)
  have hd9 : wn + ehi (.nil) ≤ 1000 := by
    rcases hdeep with h | h
    · exact h
    · exact absurd (show (7 : Int) = 0 from h) (by decide)
  obtain ⟨h1, h2, hB⟩ := ww_facts w wa wn wc (F64 ob)
  have hlt := fun x => hO.2 s w x hs
  have hs1 := hO.1 _ _ _ hs hB
  have hS1 : ∀ x, S x → x < (ww w wa wn wc (F64 ob)).heap.size ∧ ¬ N s x := fun x hx => ⟨Nat.lt_of_lt_of_le (hS x hx).1 hB.size, (hS x hx).2⟩
  have hv1 := hv.below hB (fun x hx => (hS x hx).2)
  have hRow1 := hRow.below hB
  have HC := Lib.hid (hCL ⟨7, i, c, t, b, cs, .nil⟩ v s way wa wn wc (ww w wa wn wc (F64 ob)) hs1 hS1 hv1 hr (show (7 : Int) ≠ 0 by decide) hRow1 hwf (by omega) (hM.1 _ _ _ (by omega) hr1))
  show Calls Tryz.prog 52 _ w (VPA st N abs (vis1 step (abs s) ⟨7, i, c, t, b, cs, .nil⟩ way) s w)
  have hvis := vis_pos (step := step) (s := abs s) (e := ⟨7, i, c, t, b, cs, .nil⟩) (way := way) (show (7 : Int) ≠ 0 by decide)
  generalize vis1 step (abs s) ⟨7, i, c, t, b, cs, .nil⟩ way = res at *
  have HSTP : ∃ r, r = step (abs s) ⟨7, i, c, t, b, cs, .nil⟩ way := ⟨_, rfl⟩
  obtain ⟨r, hrs⟩ := HSTP
  rw [← hrs] at hvis HC hrm
  obtain ⟨a1, b1⟩ := r
  have HVIS := Lib.hid hvis
  have HB := Lib.hid hB
  have HH := Lib.hid (And.intro h1 (And.intro h2 (And.intro (fun e => absurd (hlt _ e) (by omega) : ¬ N s w.heap.size) (fun e => absurd (hlt _ e) (by omega) : ¬ N s (w.heap.size + 1)))))
  have HR1 := Lib.hid (And.intro hRow1 hwf)
  have HV1 := Lib.hid (And.intro hv1 hS1)
  have hmf : ∀ (fn : Fn) (first cap : Array Value) (w : World), (Instr.makeFunc fn first cap).run Tryz.prog w = .ok (.func fn first cap) w := fun _ _ _ _ => rfl
  have x0 := h1.cell 0 rfl
  have y0 := h2.cell 0 rfl
  have hta := fun v w => ta89_4 v w
  have htb := fun v w => ta89_5 v w
  obtain ⟨bl, bn, bc, cl, cn, cc, l, n, cap, q, p, hve, hE, _, hpt⟩ := hv1
  have hve2 : v = .iface 89 (.pointer none) := hve
  subst hve2
  have HRM := Lib.hid hrm
  clear hrm hr1 hroom hs hS hv hRow hwf hdeep hd9 hlt hs1 hS1 hRow1 hvis hrs h1 h2 hB hve hE hpt hr hCL
  unfold F64 at *
  go_enter Tryz.func52, Tryz.ntmps52
  go_upto_region 1 with (fail)
  change Code.wp _ _ _ _ (ww w wa wn wc (.func (Fn.func 64) #[] #[.pointer (some ⟨ob, 0, none⟩)]))
  generalize hww : ww w wa wn wc (.func (Fn.func 64) #[] #[.pointer (some ⟨ob, 0, none⟩)]) = w1 at *
  cases b1
  · go_wp2_with (go_at_call 64; (with_reducible refine HC.out.mono ?_); intro e2 w2 hI; obtain ⟨s1, ha1, rfl, hK2⟩ := hI; have HA1 := Lib.hid ha1; have HK2 := Lib.hid hK2; have HW2 := Lib.hid (hK2.blk HH.out.1 HH.out.2.2.1); have HD2 := Lib.hid (hK2.blk HH.out.2.1 HH.out.2.2.2); have HN1 := Lib.hid (hK2.notN HH.out.1.1 HH.out.2.2.1); have HN2 := Lib.hid (hK2.notN HH.out.2.1.1 HH.out.2.2.2); clear hK2 ha1)
    go_ret
    exact ⟨s1, by rw [HVIS.out]; exact HA1.out, by rw [HVIS.out]; rfl, VK.ahead HB.out HK2.out⟩
  · go_wp2_with (go_at_call 64; (with_reducible refine HC.out.mono ?_); intro e2 w2 hI; obtain ⟨s1, ha1, rfl, hK2⟩ := hI; have HA1 := Lib.hid ha1; have HK2 := Lib.hid hK2; have HW2 := Lib.hid (hK2.blk HH.out.1 HH.out.2.2.1); have HD2 := Lib.hid (hK2.blk HH.out.2.1 HH.out.2.2.2); have HN1 := Lib.hid (hK2.notN HH.out.1.1 HH.out.2.2.1); have HN2 := Lib.hid (hK2.notN HH.out.2.1.1 HH.out.2.2.2); clear hK2 ha1)
    go_ret
    exact ⟨s1, by rw [HVIS.out]; exact HA1.out, by rw [HVIS.out]; rfl, VK.ahead HB.out HK2.out⟩
set_option maxRecDepth 100000 in
set_option maxHeartbeats 16000000 in
theorem wa64_8 (hO : VOK st N) (hM : ROK step room) {S : Nat → Prop} {ob : Nat} (hCL : CA64 st N abs step room S ob) {i c : Int} {t : Bs} {b : Dt} {cs : List Int} {v : Value} {k2 i2 c2 : Int} {t2 : Bs} {b2 : Dt} {cs2 : List Int} {ks : Eo} (hr : rightE ⟨8, i, c, t, b, cs, .cons k2 i2 c2 t2 b2 cs2 ks .nil⟩ = true) (hOK : ∀ v2, WA1 st N abs step room S (F64 ob) ⟨k2, i2, c2, t2, b2, cs2, ks⟩ v2) : WA1 st N abs step room S (F64 ob) ⟨8, i, c, t, b, cs, .cons k2 i2 c2 t2 b2 cs2 ks .nil⟩ v := by
  intro s way wa wn wc w hs hS hv hRow hwf hdeep hroom
  have hr1 : room (abs s) (1 + esz (.cons k2 i2 c2 t2 b2 cs2 ks .nil)) := by
    rcases hroom with h | h
    · exact h
    · exact absurd (show (8 : Int) = 0 from h) (by decide)
  have hrm : room (step (abs s) ⟨8, i, c, t, b, cs, .cons k2 i2 c2 t2 b2 cs2 ks .nil⟩ way).1 (esz (.cons k2 i2 c2 t2 b2 cs2 ks .nil)) := hM.2 _ _ _ _ (by rw [Nat.add_comm]; exact hr1)
  have hd9 : wn + ehi (.cons k2 i2 c2 t2 b2 cs2 ks .nil) ≤ 1000 := by
    rcases hdeep with h | h
    · exact h
    · exact absurd (show (8 : Int) = 0 from h) (by decide)
  obtain ⟨h1, h2, hB⟩ := ww_facts w wa wn wc (F64 ob)
  have hlt := fun x => hO.2 s w x hs
  have hs1 := hO.1 _ _ _ hs hB
  have hS1 : ∀ x, S x → x < (ww w wa wn wc (F64 ob)).heap.size ∧ ¬ N s x := fun x hx => ⟨Nat.lt_of_lt_of_le (hS x hx).1 hB.size, (hS x hx).2⟩
  have hv1 := hv.below hB (fun x hx => (hS x hx).2)
  have hRow1 := hRow.below hB
  have HC := Lib.hid (hCL ⟨8, i, c, t, b, cs, .cons k2 i2 c2 t2 b2 cs2 ks .nil⟩ v s way wa wn wc (ww w wa wn wc (F64 ob)) hs1 hS1 hv1 hr (show (8 : Int) ≠ 0 by decide) hRow1 hwf (by omega) (hM.1 _ _ _ (by omega) hr1))
  show Calls Tryz.prog 52 _ w (VPA st N abs (vis1 step (abs s) ⟨8, i, c, t, b, cs, .cons k2 i2 c2 t2 b2 cs2 ks .nil⟩ way) s w)
  have hvis := vis_pos (step := step) (s := abs s) (e := ⟨8, i, c, t, b, cs, .cons k2 i2 c2 t2 b2 cs2 ks .nil⟩) (way := way) (show (8 : Int) ≠ 0 by decide)
  generalize vis1 step (abs s) ⟨8, i, c, t, b, cs, .cons k2 i2 c2 t2 b2 cs2 ks .nil⟩ way = res at *
  have HSTP : ∃ r, r = step (abs s) ⟨8, i, c, t, b, cs, .cons k2 i2 c2 t2 b2 cs2 ks .nil⟩ way := ⟨_, rfl⟩
  obtain ⟨r, hrs⟩ := HSTP
  rw [← hrs] at hvis HC hrm
  obtain ⟨a1, b1⟩ := r
  have HVIS := Lib.hid hvis
  have HB := Lib.hid hB
  have HH := Lib.hid (And.intro h1 (And.intro h2 (And.intro (fun e => absurd (hlt _ e) (by omega) : ¬ N s w.heap.size) (fun e => absurd (hlt _ e) (by omega) : ¬ N s (w.heap.size + 1)))))
  have HR1 := Lib.hid (And.intro hRow1 hwf)
  have HV1 := Lib.hid (And.intro hv1 hS1)
  have hmf : ∀ (fn : Fn) (first cap : Array Value) (w : World), (Instr.makeFunc fn first cap).run Tryz.prog w = .ok (.func fn first cap) w := fun _ _ _ _ => rfl
  have x0 := h1.cell 0 rfl
  have y0 := h2.cell 0 rfl
  have hta := fun v w => ta108_4 v w
  have htb := fun v w => ta108_5 v w
  have hmu := fun v w => m108u v w
  obtain ⟨bl, bn, bc, cl, cn, cc, l, n, cap, q, p, hve, hE, _, hpt⟩ := hv1
  have hve2 : v = .iface 108 (.pointer (some ⟨p, 0, none⟩)) := hve
  subst hve2
  have hP := hpt (.inr (.inr (.inr (.inl rfl))))
  have HCU := Lib.hid (fun (s1 : σ) (wx : World) (hx : VK st N s s1 (ww w wa wn wc (F64 ob)) wx) => unw187 (S := S) (N := N s1) (hx.blk hP.1 hP.2) ((hE.same (fun x hx' _ => hx.2.1.block x (hS1 x hx').1 (hS1 x hx').2) (fun x hx' _ => hx')).2.2) (fun x e => hO.2 s1 wx x hx.1 e))
  have HCN := Lib.hid (fun (s1 : σ) (ha : abs s1 = a1) (wx : World) (v2 : Value) (hst : st s1 wx) (hSN : ∀ x, S x → x < wx.heap.size ∧ ¬ N s1 x) (hvv : EVAt S (N s1) wx ⟨k2, i2, c2, t2, b2, cs2, ks⟩ v2) (hrw : Row 0 wx 1 wa wn wc (I8 way)) (hw : Blk wx w.heap.size [.slice wa wn wc]) (hd : Blk wx (w.heap.size + 1) [(F64 ob)]) (hn1 : ¬ N s1 w.heap.size) (hn2 : ¬ N s1 (w.heap.size + 1)) =>
    (show Calls Tryz.prog 83 #[.int .i64 0, v2, .pointer (some ⟨w.heap.size, 0, none⟩), .pointer (some ⟨w.heap.size + 1, 0, none⟩)] wx (VPA st N abs (vis1 step a1 ⟨k2, i2, c2, t2, b2, cs2, ks⟩ (way ++ [((0 : Nat) : Int)])) s1 wx) from by rw [← ha]; exact next83a hO (hOK v2) hst hSN hvv hrw (by have h9 := hd9; simp only [ehi] at h9; exact ⟨by omega, .inl (by omega)⟩) hw hd hn1 hn2 (.inl (by rw [ha]; exact hM.1 _ _ _ (by simp only [esz]; omega) hrm)) 0))
  rw [visL_one] at HVIS
  generalize vis1 step a1 ⟨k2, i2, c2, t2, b2, cs2, ks⟩ (way ++ [((0 : Nat) : Int)]) = r2 at *
  have HRM := Lib.hid hrm
  clear hrm hr1 hroom hs hS hv hRow hwf hdeep hd9 hlt hs1 hS1 hRow1 hvis hrs h1 h2 hB hve hE hpt hr hCL hP hOK
  unfold F64 at *
  go_enter Tryz.func52, Tryz.ntmps52
  go_upto_region 1 with (fail)
  change Code.wp _ _ _ _ (ww w wa wn wc (.func (Fn.func 64) #[] #[.pointer (some ⟨ob, 0, none⟩)]))
  generalize hww : ww w wa wn wc (.func (Fn.func 64) #[] #[.pointer (some ⟨ob, 0, none⟩)]) = w1 at *
  cases b1
  · go_wp2_with (go_at_call 64; (with_reducible refine HC.out.mono ?_); intro e2 w2 hI; obtain ⟨s1, ha1, rfl, hK2⟩ := hI; have HA1 := Lib.hid ha1; have HK2 := Lib.hid hK2; have HW2 := Lib.hid (hK2.blk HH.out.1 HH.out.2.2.1); have HD2 := Lib.hid (hK2.blk HH.out.2.1 HH.out.2.2.2); have HN1 := Lib.hid (hK2.notN HH.out.1.1 HH.out.2.2.1); have HN2 := Lib.hid (hK2.notN HH.out.2.1.1 HH.out.2.2.2); clear hK2 ha1)
    go_ret
    exact ⟨s1, by rw [HVIS.out]; exact HA1.out, by rw [HVIS.out]; rfl, VK.ahead HB.out HK2.out⟩
  · go_upto_region 9 with (go_at_call 64; (with_reducible refine HC.out.mono ?_); intro e2 w2 hI; obtain ⟨s1, ha1, rfl, hK2⟩ := hI; have HA1 := Lib.hid ha1; have HK2 := Lib.hid hK2; have HW2 := Lib.hid (hK2.blk HH.out.1 HH.out.2.2.1); have HD2 := Lib.hid (hK2.blk HH.out.2.1 HH.out.2.2.2); have HN1 := Lib.hid (hK2.notN HH.out.1.1 HH.out.2.2.1); have HN2 := Lib.hid (hK2.notN HH.out.2.1.1 HH.out.2.2.2); clear hK2 ha1)
    go_wp2_with (first
      | (go_at_call 187; (with_reducible refine (HCU.out _ _ HK2.out).mono ?_); rintro e3 w3 ⟨v3, rfl, hv3, hB3⟩; have HV3 := Lib.hid hv3; have HB3 := Lib.hid hB3; have HK3 := Lib.hid (VK.calm hO HK2.out hB3); clear hv3 hB3)
      | (go_at_call 83; (with_reducible refine (HCN.out _ HA1.out _ _ HK3.out.s' (SN.vk HK3.out HV1.out.2) HV3.out (HR1.out.1.keep HK3.out.k (fun x hx => HR1.out.2 x hx)) (HW2.out.below HB3.out) (HD2.out.below HB3.out) HN1.out HN2.out).mono ?_); intro e4 w4 hI; obtain ⟨s4, ha4, rfl, hK4⟩ := hI; have HA4 := Lib.hid ha4; have HK4 := Lib.hid hK4; clear hK4 ha4))
    go_ret
    exact ⟨s4, by rw [HVIS.out]; exact HA4.out, by rw [HVIS.out]; rfl, VK.ahead HB.out (VK.trans HK3.out HK4.out)⟩
set_option maxRecDepth 100000 in
set_option maxHeartbeats 16000000 in
theorem wa64_8n (hO : VOK st N) (hM : ROK step room) {S : Nat → Prop} {ob : Nat} (hCL : CA64 st N abs step room S ob) {i c : Int} {t : Bs} {b : Dt} {cs : List Int} {v : Value} (hr : rightE ⟨8, i, c, t, b, cs, .nil⟩ = true) : WA1 st N abs step room S (F64 ob) ⟨8, i, c, t, b, cs, .nil⟩ v := by
  intro s way wa wn wc w hs hS hv hRow hwf hdeep hroom
  have hr1 : room (abs s) (1 + esz (.nil)) := by
    rcases hroom with h | h
    · exact h
    · exact absurd (show (8 : Int) = 0 from h) (by decide)
  have hrm : room (step (abs s) ⟨8, i, c, t, b, cs, .nil⟩ way).1 (esz (.nil)) := hM.2 _ _ _ _ (by rw [Nat.add_comm]; exact hr1)
  have hd9 : wn + ehi (.nil) ≤ 1000 := by
    rcases hdeep with h | h
    · exact h
    · exact absurd (show (8 : Int) = 0 from h) (by decide)
  obtain ⟨h1, h2, hB⟩ := ww_facts w wa wn wc (F64 ob)
  have hlt := fun x => hO.2 s w x hs
  have hs1 := hO.1 _ _ _ hs hB
  have hS1 : ∀ x, S x → x < (ww w wa wn wc (F64 ob)).heap.size ∧ ¬ N s x := fun x hx => ⟨Nat.lt_of_lt_of_le (hS x hx).1 hB.size, (hS x hx).2⟩
  have hv1 := hv.below hB (fun x hx => (hS x hx).2)
  have hRow1 := hRow.below hB
  have HC := Lib.hid (hCL ⟨8, i, c, t, b, cs, .nil⟩ v s way wa wn wc (ww w wa wn wc (F64 ob)) hs1 hS1 hv1 hr (show (8 : Int) ≠ 0 by decide) hRow1 hwf (by omega) (hM.1 _ _ _ (by omega) hr1))
  show Calls Tryz.prog 52 _ w (VPA st N abs (vis1 step (abs s) ⟨8, i, c, t, b, cs, .nil⟩ way) s w)
  have hvis := vis_pos (step := step) (s := abs s) (e := ⟨8, i, c, t, b, cs, .nil⟩) (way := way) (show (8 : Int) ≠ 0 by decide)
  generalize vis1 step (abs s) ⟨8, i, c, t, b, cs, .nil⟩ way = res at *
  have HSTP : ∃ r, r = step (abs s) ⟨8, i, c, t, b, cs, .nil⟩ way := ⟨_, rfl⟩
  obtain ⟨r, hrs⟩ := HSTP
  rw [← hrs] at hvis HC hrm
  obtain ⟨a1, b1⟩ := r
  have HVIS := Lib.hid hvis
  have HB := Lib.hid hB
  have HH := Lib.hid (And.intro h1 (And.intro h2 (And.intro (fun e => absurd (hlt _ e) (by omega) : ¬ N s w.heap.size) (fun e => absurd (hlt _ e) (by omega) : ¬ N s (w.heap.size + 1)))))
  have HR1 := Lib.hid (And.intro hRow1 hwf)
  have HV1 := Lib.hid (And.intro hv1 hS1)
  have hmf : ∀ (fn : Fn) (first cap : Array Value) (w : World), (Instr.makeFunc fn first cap).run Tryz.prog w = .ok (.func fn first cap) w := fun _ _ _ _ => rfl
  have x0 := h1.cell 0 rfl
  have y0 := h2.cell 0 rfl
  have hta := fun v w => ta108_4 v w
  have htb := fun v w => ta108_5 v w
  have hmu := fun v w => m108u v w
  obtain ⟨bl, bn, bc, cl, cn, cc, l, n, cap, q, p, hve, hE, _, hpt⟩ := hv1
  have hve2 : v = .iface 108 (.pointer (some ⟨p, 0, none⟩)) := hve
  subst hve2
  have hP := hpt (.inr (.inr (.inr (.inl rfl))))
  have hn0 : 0 = n := hE.2.2.len
  subst hn0
  have HCU := Lib.hid (fun (s1 : σ) (wx : World) (hx : VK st N s s1 (ww w wa wn wc (F64 ob)) wx) => unw187n (hx.blk hP.1 hP.2))
  have HCN := Lib.hid (fun (s1 : σ) (ha : abs s1 = a1) (wx : World) (hst : st s1 wx) (hSN : ∀ x, S x → x < wx.heap.size ∧ ¬ N s1 x) (hrw : Row 0 wx 1 wa wn wc (I8 way)) (hw : Blk wx w.heap.size [.slice wa wn wc]) (hd : Blk wx (w.heap.size + 1) [(F64 ob)]) (hn1 : ¬ N s1 w.heap.size) (hn2 : ¬ N s1 (w.heap.size + 1)) =>
    (show Calls Tryz.prog 83 #[.int .i64 0, .nilIface, .pointer (some ⟨w.heap.size, 0, none⟩), .pointer (some ⟨w.heap.size + 1, 0, none⟩)] wx (VPA st N abs (vis1 step a1 ⟨0, 0, 0, [], Dt.zero, [], .nil⟩ (way ++ [(0 : Int)])) s1 wx) from by rw [← ha]; exact next83a hO (wa64_0 (step := step) (abs := abs) (room := room) hO (i := 0) (c := 0) (t := []) (b := Dt.zero) (cs := []) (kids := .nil)) hst hSN nilEV hrw ⟨by have h9 := hd9; simp only [ehi] at h9; omega, .inr rfl⟩ hw hd hn1 hn2 (.inr rfl) 0))
  have hz0 : vis1 step a1 ⟨0, 0, 0, [], Dt.zero, [], .nil⟩ (way ++ [(0 : Int)]) = (a1, true) := by unfold vis1; rw [if_pos rfl]
  rw [hz0] at HCN
  have HRM := Lib.hid hrm
  clear hrm hr1 hroom hs hS hv hRow hwf hdeep hd9 hlt hs1 hS1 hRow1 hvis hrs h1 h2 hB hve hE hpt hr hCL hP
  unfold F64 at *
  go_enter Tryz.func52, Tryz.ntmps52
  go_upto_region 1 with (fail)
  change Code.wp _ _ _ _ (ww w wa wn wc (.func (Fn.func 64) #[] #[.pointer (some ⟨ob, 0, none⟩)]))
  generalize hww : ww w wa wn wc (.func (Fn.func 64) #[] #[.pointer (some ⟨ob, 0, none⟩)]) = w1 at *
  cases b1
  · go_wp2_with (go_at_call 64; (with_reducible refine HC.out.mono ?_); intro e2 w2 hI; obtain ⟨s1, ha1, rfl, hK2⟩ := hI; have HA1 := Lib.hid ha1; have HK2 := Lib.hid hK2; have HW2 := Lib.hid (hK2.blk HH.out.1 HH.out.2.2.1); have HD2 := Lib.hid (hK2.blk HH.out.2.1 HH.out.2.2.2); have HN1 := Lib.hid (hK2.notN HH.out.1.1 HH.out.2.2.1); have HN2 := Lib.hid (hK2.notN HH.out.2.1.1 HH.out.2.2.2); clear hK2 ha1)
    go_ret
    exact ⟨s1, by rw [HVIS.out]; exact HA1.out, by rw [HVIS.out]; rfl, VK.ahead HB.out HK2.out⟩
  · go_upto_region 9 with (go_at_call 64; (with_reducible refine HC.out.mono ?_); intro e2 w2 hI; obtain ⟨s1, ha1, rfl, hK2⟩ := hI; have HA1 := Lib.hid ha1; have HK2 := Lib.hid hK2; have HW2 := Lib.hid (hK2.blk HH.out.1 HH.out.2.2.1); have HD2 := Lib.hid (hK2.blk HH.out.2.1 HH.out.2.2.2); have HN1 := Lib.hid (hK2.notN HH.out.1.1 HH.out.2.2.1); have HN2 := Lib.hid (hK2.notN HH.out.2.1.1 HH.out.2.2.2); clear hK2 ha1)
    go_wp2_with (first
      | (go_at_call 187; (with_reducible refine (HCU.out _ _ HK2.out).mono ?_); rintro e3 w3 ⟨rfl, rfl⟩)
      | (go_at_call 83; (with_reducible refine (HCN.out _ HA1.out _ HK2.out.s' (SN.vk HK2.out HV1.out.2) (HR1.out.1.keep HK2.out.k (fun x hx => HR1.out.2 x hx)) HW2.out HD2.out HN1.out HN2.out).mono ?_); intro e4 w4 hI; obtain ⟨s4, ha4, rfl, hK4⟩ := hI; have HA4 := Lib.hid ha4; have HK4 := Lib.hid hK4; clear hK4 ha4))
    go_ret
    exact ⟨s4, by rw [HVIS.out]; exact HA4.out, by rw [HVIS.out]; rfl, VK.ahead HB.out (VK.trans HK2.out HK4.out)⟩
set_option maxRecDepth 100000 in
set_option maxHeartbeats 16000000 in
theorem wa64_9 (hO : VOK st N) (hM : ROK step room) {S : Nat → Prop} {ob : Nat} (hCL : CA64 st N abs step room S ob) {i c : Int} {t : Bs} {b : Dt} {cs : List Int} {v : Value} (hr : rightE ⟨9, i, c, t, b, cs, .nil⟩ = true) : WA1 st N abs step room S (F64 ob) ⟨9, i, c, t, b, cs, .nil⟩ v := by
  intro s way wa wn wc w hs hS hv hRow hwf hdeep hroom
  have hr1 : room (abs s) (1 + esz (.nil)) := by
    rcases hroom with h | h
    · exact h
    · exact absurd (show (9 : Int) = 0 from h) (by decide)
  have hrm : room (step (abs s) ⟨9, i, c, t, b, cs, .nil⟩ way).1 (esz (.nil)) := hM.2 _ _ _ _ (by rw [Nat.add_comm]; exact hr1)
  have hd9 : wn + ehi (.nil) ≤ 1000 := by
    rcases hdeep with h | h
    · exact h
    · exact absurd (show (9 : Int) = 0 from h) (by decide)
  obtain ⟨h1, h2, hB⟩ := ww_facts w wa wn wc (F64 ob)
  have hlt := fun x => hO.2 s w x hs
  have hs1 := hO.1 _ _ _ hs hB
  have hS1 : ∀ x, S x → x < (ww w wa wn wc (F64 ob)).heap.size ∧ ¬ N s x := fun x hx => ⟨Nat.lt_of_lt_of_le (hS x hx).1 hB.size, (hS x hx).2⟩
  have hv1 := hv.below hB (fun x hx => (hS x hx).2)
  have hRow1 := hRow.below hB
  have HC := Lib.hid (hCL ⟨9, i, c, t, b, cs, .nil⟩ v s way wa wn wc (ww w wa wn wc (F64 ob)) hs1 hS1 hv1 hr (show (9 : Int) ≠ 0 by decide) hRow1 hwf (by omega) (hM.1 _ _ _ (by omega) hr1))
  show Calls Tryz.prog 52 _ w (VPA st N abs (vis1 step (abs s) ⟨9, i, c, t, b, cs, .nil⟩ way) s w)
  have hvis := vis_pos (step := step) (s := abs s) (e := ⟨9, i, c, t, b, cs, .nil⟩) (way := way) (show (9 : Int) ≠ 0 by decide)
  generalize vis1 step (abs s) ⟨9, i, c, t, b, cs, .nil⟩ way = res at *
  have HSTP : ∃ r, r = step (abs s) ⟨9, i, c, t, b, cs, .nil⟩ way := ⟨_, rfl⟩
  obtain ⟨r, hrs⟩ := HSTP
  rw [← hrs] at hvis HC hrm
  obtain ⟨a1, b1⟩ := r
  have HVIS := Lib.hid hvis
  have HB := Lib.hid hB
  have HH := Lib.hid (And.intro h1 (And.intro h2 (And.intro (fun e => absurd (hlt _ e) (by omega) : ¬ N s w.heap.size) (fun e => absurd (hlt _ e) (by omega) : ¬ N s (w.heap.size + 1)))))
  have HR1 := Lib.hid (And.intro hRow1 hwf)
  have HV1 := Lib.hid (And.intro hv1 hS1)
  have hmf : ∀ (fn : Fn) (first cap : Array Value) (w : World), (Instr.makeFunc fn first cap).run Tryz.prog w = .ok (.func fn first cap) w := fun _ _ _ _ => rfl
  have x0 := h1.cell 0 rfl
  have y0 := h2.cell 0 rfl
  have hta := fun v w => ta109_4 v w
  have htb := fun v w => ta109_5 v w
  obtain ⟨bl, bn, bc, cl, cn, cc, l, n, cap, q, p, hve, hE, _, hpt⟩ := hv1
  have hve2 : v = .iface 109 (.pointer (some ⟨p, 0, none⟩)) := hve
  subst hve2
  have HRM := Lib.hid hrm
  clear hrm hr1 hroom hs hS hv hRow hwf hdeep hd9 hlt hs1 hS1 hRow1 hvis hrs h1 h2 hB hve hE hpt hr hCL
  unfold F64 at *
  go_enter Tryz.func52, Tryz.ntmps52
  go_upto_region 1 with (fail)
  change Code.wp _ _ _ _ (ww w wa wn wc (.func (Fn.func 64) #[] #[.pointer (some ⟨ob, 0, none⟩)]))
  generalize hww : ww w wa wn wc (.func (Fn.func 64) #[] #[.pointer (some ⟨ob, 0, none⟩)]) = w1 at *
  cases b1
  · go_wp2_with (go_at_call 64; (with_reducible refine HC.out.mono ?_); intro e2 w2 hI; obtain ⟨s1, ha1, rfl, hK2⟩ := hI; have HA1 := Lib.hid ha1; have HK2 := Lib.hid hK2; have HW2 := Lib.hid (hK2.blk HH.out.1 HH.out.2.2.1); have HD2 := Lib.hid (hK2.blk HH.out.2.1 HH.out.2.2.2); have HN1 := Lib.hid (hK2.notN HH.out.1.1 HH.out.2.2.1); have HN2 := Lib.hid (hK2.notN HH.out.2.1.1 HH.out.2.2.2); clear hK2 ha1)
    go_ret
    exact ⟨s1, by rw [HVIS.out]; exact HA1.out, by rw [HVIS.out]; rfl, VK.ahead HB.out HK2.out⟩
  · go_wp2_with (go_at_call 64; (with_reducible refine HC.out.mono ?_); intro e2 w2 hI; obtain ⟨s1, ha1, rfl, hK2⟩ := hI; have HA1 := Lib.hid ha1; have HK2 := Lib.hid hK2; have HW2 := Lib.hid (hK2.blk HH.out.1 HH.out.2.2.1); have HD2 := Lib.hid (hK2.blk HH.out.2.1 HH.out.2.2.2); have HN1 := Lib.hid (hK2.notN HH.out.1.1 HH.out.2.2.1); have HN2 := Lib.hid (hK2.notN HH.out.2.1.1 HH.out.2.2.2); clear hK2 ha1)
    go_ret
    exact ⟨s1, by rw [HVIS.out]; exact HA1.out, by rw [HVIS.out]; rfl, VK.ahead HB.out HK2.out⟩
set_option maxRecDepth 100000 in
set_option maxHeartbeats 16000000 in
theorem wa64_10 (hO : VOK st N) (hM : ROK step room) {S : Nat → Prop} {ob : Nat} (hCL : CA64 st N abs step room S ob) {i c : Int} {t : Bs} {b : Dt} {cs : List Int} {v : Value} (hr : rightE ⟨10, i, c, t, b, cs, .nil⟩ = true) : WA1 st N abs step room S (F64 ob) ⟨10, i, c, t, b, cs, .nil⟩ v := by
  intro s way wa wn wc w hs hS hv hRow hwf hdeep hroom
  have hr1 : room (abs s) (1 + esz (.nil)) := by
    rcases hroom with h | h
    · exact h
    · exact absurd (show (10 : Int) = 0 from h) (by decide)
  have hrm : room (step (abs s) ⟨10, i, c, t, b, cs, .nil⟩ way).1 (esz (.nil)) := hM.2 _ _ _ _ (by rw [Nat.add_comm]; exact hr1)
  have hd9 : wn + ehi (.nil) ≤ 1000 := by
    rcases hdeep with h | h
    · exact h
    · exact absurd (show (10 : Int) = 0 from h) (by decide)
  obtain ⟨h1, h2, hB⟩ := ww_facts w wa wn wc (F64 ob)
  have hlt := fun x => hO.2 s w x hs
  have hs1 := hO.1 _ _ _ hs hB
  have hS1 : ∀ x, S x → x < (ww w wa wn wc (F64 ob)).heap.size ∧ ¬ N s x := fun x hx => ⟨Nat.lt_of_lt_of_le (hS x hx).1 hB.size, (hS x hx).2⟩
  have hv1 := hv.below hB (fun x hx => (hS x hx).2)
  have hRow1 := hRow.below hB
  have HC := Lib.hid (hCL ⟨10, i, c, t, b, cs, .nil⟩ v s way wa wn wc (ww w wa wn wc (F64 ob)) hs1 hS1 hv1 hr (show (10 : Int) ≠ 0 by decide) hRow1 hwf (by omega) (hM.1 _ _ _ (by omega) hr1))
  show Calls Tryz.prog 52 _ w (VPA st N abs (vis1 step (abs s) ⟨10, i, c, t, b, cs, .nil⟩ way) s w)
  have hvis := vis_pos (step := step) (s := abs s) (e := ⟨10, i, c, t, b, cs, .nil⟩) (way := way) (show (10 : Int) ≠ 0 by decide)
  generalize vis1 step (abs s) ⟨10, i, c, t, b, cs, .nil⟩ way = res at *
  have HSTP : ∃ r, r = step (abs s) ⟨10, i, c, t, b, cs, .nil⟩ way := ⟨_, rfl⟩
  obtain ⟨r, hrs⟩ := HSTP
  rw [← hrs] at hvis HC hrm
  obtain ⟨a1, b1⟩ := r
  have HVIS := Lib.hid hvis
  have HB := Lib.hid hB
  have HH := Lib.hid (And.intro h1 (And.intro h2 (And.intro (fun e => absurd (hlt _ e) (by omega) : ¬ N s w.heap.size) (fun e => absurd (hlt _ e) (by omega) : ¬ N s (w.heap.size + 1)))))
  have HR1 := Lib.hid (And.intro hRow1 hwf)
  have HV1 := Lib.hid (And.intro hv1 hS1)
  have hmf : ∀ (fn : Fn) (first cap : Array Value) (w : World), (Instr.makeFunc fn first cap).run Tryz.prog w = .ok (.func fn first cap) w := fun _ _ _ _ => rfl
  have x0 := h1.cell 0 rfl
  have y0 := h2.cell 0 rfl
  have hta := fun v w => ta110_4 v w
  have htb := fun v w => ta110_5 v w
  obtain ⟨bl, bn, bc, cl, cn, cc, l, n, cap, q, p, hve, hE, _, hpt⟩ := hv1
  have hve2 : v = .iface 110 (.agg #[.int .i64 c, .string ⟨t.toArray⟩]) := hve
  subst hve2
  have HRM := Lib.hid hrm
  clear hrm hr1 hroom hs hS hv hRow hwf hdeep hd9 hlt hs1 hS1 hRow1 hvis hrs h1 h2 hB hve hE hpt hr hCL
  unfold F64 at *
  go_enter Tryz.func52, Tryz.ntmps52
  go_upto_region 1 with (fail)
  change Code.wp _ _ _ _ (ww w wa wn wc (.func (Fn.func 64) #[] #[.pointer (some ⟨ob, 0, none⟩)]))
  generalize hww : ww w wa wn wc (.func (Fn.func 64) #[] #[.pointer (some ⟨ob, 0, none⟩)]) = w1 at *
  cases b1
  · go_wp2_with (go_at_call 64; (with_reducible refine HC.out.mono ?_); intro e2 w2 hI; obtain ⟨s1, ha1, rfl, hK2⟩ := hI; have HA1 := Lib.hid ha1; have HK2 := Lib.hid hK2; have HW2 := Lib.hid (hK2.blk HH.out.1 HH.out.2.2.1); have HD2 := Lib.hid (hK2.blk HH.out.2.1 HH.out.2.2.2); have HN1 := Lib.hid (hK2.notN HH.out.1.1 HH.out.2.2.1); have HN2 := Lib.hid (hK2.notN HH.out.2.1.1 HH.out.2.2.2); clear hK2 ha1)
    go_ret
    exact ⟨s1, by rw [HVIS.out]; exact HA1.out, by rw [HVIS.out]; rfl, VK.ahead HB.out HK2.out⟩
  · go_wp2_with (go_at_call 64; (with_reducible refine HC.out.mono ?_); intro e2 w2 hI; obtain ⟨s1, ha1, rfl, hK2⟩ := hI; have HA1 := Lib.hid ha1; have HK2 := Lib.hid hK2; have HW2 := Lib.hid (hK2.blk HH.out.1 HH.out.2.2.1); have HD2 := Lib.hid (hK2.blk HH.out.2.1 HH.out.2.2.2); have HN1 := Lib.hid (hK2.notN HH.out.1.1 HH.out.2.2.1); have HN2 := Lib.hid (hK2.notN HH.out.2.1.1 HH.out.2.2.2); clear hK2 ha1)
    go_ret
    exact ⟨s1, by rw [HVIS.out]; exact HA1.out, by rw [HVIS.out]; rfl, VK.ahead HB.out HK2.out⟩
theorem waN64 (hO : VOK st N) (hM : ROK step room) {S : Nat → Prop} {ob : Nat} (hCL : CA64 st N abs step room S ob) {kids : Eo} (hall : kids.All (WAOK st N abs step room S (F64 ob))) : WAOK st N abs step room S (F64 ob) kids := by
  intro k i c t b cs v hr0
  have hr := hr0
  unfold rright1 at hr
  rw [Bool.and_eq_true] at hr
  obtain ⟨hfit, hrr⟩ := hr
  obtain ⟨hk, hn, _, _⟩ := fit_num hfit
  have hrE : rightE ⟨k, i, c, t, b, cs, kids⟩ = true := hr0
  by_cases h0 : k = 0
  · subst h0
    intro s way wa wn wc w hs hS hv hRow hwf hdeep hroom
    have hv0 : v = .nilIface := by
      obtain ⟨bl, bn, bc, cl, cn, cc, l, n, cap, q, p, hve, _⟩ := hv
      exact hve
    subst hv0
    exact wa64_0 hO s way wa wn wc w hs hS hv hRow hwf hdeep hroom
  have hchild : ∀ {k2 i2 c2 : Int} {t2 : Bs} {b2 : Dt} {cs2 : List Int} {ks : Eo}, kids = .cons k2 i2 c2 t2 b2 cs2 ks .nil → ∀ v2, WA1 st N abs step room S (F64 ob) ⟨k2, i2, c2, t2, b2, cs2, ks⟩ v2 := by
    intro k2 i2 c2 t2 b2 cs2 ks e v2
    subst e
    rw [rrightL, Bool.and_eq_true, Bool.and_eq_true] at hrr
    exact hall.1 k2 i2 c2 t2 b2 cs2 v2 hrr.1.2
  rcases kinds_cases k with rfl | rfl | rfl | rfl | rfl | rfl | rfl | rfl | rfl | rfl | ⟨z1, z2, z3, z4, z5, z6, z7, z8, z9, z10⟩
  · obtain rfl := len0 (show kids.len = 0 by have h := hn.2; simp [fldM] at h; omega)
    exact wa64_1 hO hM hCL hrE
  · obtain rfl := len0 (show kids.len = 0 by have h := hn.2; simp [fldM] at h; omega)
    exact wa64_2 hO hM hCL hrE
  · obtain ⟨k2, i2, c2, t2, b2, cs2, ks, e⟩ := len1 (show kids.len = 1 by have h := hn; simp [fldM] at h; omega)
    have hc := hchild e
    subst e
    exact wa64_3 hO hM hCL hrE hc
  · exact wa64_4 hO hM hCL hrE hall hrr (by have h := hn.2; simp [fldM] at h; omega)
  · obtain rfl := len0 (show kids.len = 0 by have h := hn.2; simp [fldM] at h; omega)
    exact wa64_5 hO hM hCL hrE
  · obtain rfl := len0 (show kids.len = 0 by have h := hn.2; simp [fldM] at h; omega)
    exact wa64_6 hO hM hCL hrE
  · obtain rfl := len0 (show kids.len = 0 by have h := hn.2; simp [fldM] at h; omega)
    exact wa64_7 hO hM hCL hrE
  · by_cases hl : kids.len = 0
    · obtain rfl := len0 hl
      exact wa64_8n hO hM hCL hrE
    · obtain ⟨k2, i2, c2, t2, b2, cs2, ks, e⟩ := len1 (show kids.len = 1 by have h := hn.2; simp [fldM] at h; omega)
      have hc := hchild e
      subst e
      exact wa64_8 hO hM hCL hrE hc
  · obtain rfl := len0 (show kids.len = 0 by have h := hn.2; simp [fldM] at h; omega)
    exact wa64_9 hO hM hCL hrE
  · obtain rfl := len0 (show kids.len = 0 by have h := hn.2; simp [fldM] at h; omega)
    exact wa64_10 hO hM hCL hrE
  · omega
theorem waAll64 (hO : VOK st N) (hM : ROK step room) {S : Nat → Prop} {ob : Nat} (hCL : CA64 st N abs step room S ob) : ∀ f : Eo, f.All (WAOK st N abs step room S (F64 ob))
  | .nil => trivial
  | .cons _ _ _ _ _ _ kids rest => ⟨waN64 hO hM hCL (waAll64 hO hM hCL kids), waAll64 hO hM hCL rest⟩
theorem waG64 (hO : VOK st N) (hM : ROK step room) {S : Nat → Prop} {ob : Nat} (hCL : CA64 st N abs step room S ob) (kids : Eo) : WAOK st N abs step room S (F64 ob) kids := waN64 hO hM hCL (waAll64 hO hM hCL kids)
end
end Go.Proofs.YtbldidiibkcelaaGreatDoor

