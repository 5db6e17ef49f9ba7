/-
  AsFace's visitor (walk). Not a statement of the seat.
-/
import Derived.Test.YtbldidiibkcelaaGreatDoorPEVw76
namespace Go.Proofs.YtbldidiibkcelaaGreatDoor
open Go.RowKit

/-- the visitor's state: what is found -/
def stF (S : Nat → Prop) (cb ob : Nat) (m : Int) (s : Option Et) (w : World) : Prop :=
  Blk w cb [.int .i64 m] ∧ cb ≠ ob ∧ (∀ x, S x → x ≠ ob) ∧ ob < w.heap.size ∧ match s with
    | none => Blk w ob [.nilIface]
    | some e => ∃ v, Blk w ob [v] ∧ EVAt S (N1 ob) w e v ∧ rightE e = true ∧ e.k ≠ 0
def stepF (m : Int) (s : Option Et) (e : Et) (_ : List Int) : Option Et × Bool := if hasK e.k m then (some e, false) else (s, s.isNone)
theorem vokF (S : Nat → Prop) (cb ob : Nat) (m : Int) : VOK (stF S cb ob m) (fun _ => N1 ob) := by
  refine ⟨fun s w w' h hB => ?_, fun s w x h hx => ?_⟩
  · obtain ⟨h1, h2, h3, h4, h5⟩ := h
    refine ⟨h1.below hB, h2, h3, Nat.lt_of_lt_of_le h4 hB.size, ?_⟩
    cases s with
    | none => exact h5.below hB
    | some e =>
      obtain ⟨v, g1, g2, g3⟩ := h5
      exact ⟨v, g1.below hB, g2.below hB (fun x hx e => h3 x hx e), g3⟩
  · unfold N1 at hx
    subst hx
    exact h.2.2.2.1
theorem EVAt.if' {S N : Nat → Prop} {w : World} {e : Et} {v : Value} (h : EVAt S N w e v) (h1 : 1 ≤ e.k) (h2 : e.k ≤ 10) : ∃ u x, v = .iface u x := by
  obtain ⟨bl, bn, bc, cl, cn, cc, l, n, cap, q, p, rfl, _⟩ := h
  exact vErr_if h1 h2
set_option maxRecDepth 100000 in
set_option maxHeartbeats 8000000 in
theorem cl76 (S : Nat → Prop) (cb ob : Nat) (m : Int) : CL76 (stF S cb ob m) (fun _ => N1 ob) (stepF m) S cb ob := by
  intro e v s way wa wn wc w hs hS hv hr hk _ _ _
  have hrng : 1 ≤ e.k ∧ e.k ≤ 10 := by
    have h3 := hr
    unfold rightE rright1 at h3
    rw [Bool.and_eq_true] at h3
    have := (fit_num h3.1).1
    omega
  obtain ⟨u, y, hu⟩ := hv.if' hrng.1 hrng.2
  have HC := Lib.hid (show ∀ wx, Calls Tryz.prog 56 #[v, .int .i64 m] wx (fun r w' => r = .returned (.bool (hasK e.k m)) ∧ w' = wx) from fun wx => by
    obtain ⟨bl, bn, bc, cl, cn, cc, l, n, cap, q, p, rfl, _⟩ := hv
    exact canN m e.c e.t cl cn cc q p hrng.1 hrng.2 wx)
  subst hu
  obtain ⟨h1, h2, h3, h4, h5⟩ := hs
  have x0 := h1.cell 0 rfl
  have HV := Lib.hid (And.intro h1 (And.intro h2 (And.intro h3 (And.intro h4 (And.intro hv (And.intro hr hk))))))
  have hstep : stepF m s e way = if hasK e.k m then (some e, false) else (s, s.isNone) := rfl
  rw [hstep]
  generalize hh : hasK e.k m = h at *
  have hobk : ∃ u0, Blk w ob [u0] := by
    cases s with
    | none => exact ⟨_, h5⟩
    | some e0 => obtain ⟨v0, g1, _⟩ := h5; exact ⟨v0, g1⟩
  cases h
  · cases s with
    | none =>
      have y0 := h5.cell 0 rfl
      have HS := Lib.hid h5
      clear h1 h2 h3 h4 h5 hv hr hk hS hstep hobk hh hrng
      go_enter Tryz.func76, Tryz.ntmps76
      go_wp2_with (go_at_call 56; (with_reducible refine (HC.out _).mono ?_); rintro r2 w2 ⟨rfl, rfl⟩)
      go_ret
      exact ⟨rfl, ⟨HV.out.1, HV.out.2.1, HV.out.2.2.1, HV.out.2.2.2.1, HS.out⟩, Kept.refl _ _, fun _ h => .inl h⟩
    | some e0 =>
      obtain ⟨v0, g1, g2, g3, g4⟩ := h5
      have hrng0 : 1 ≤ e0.k ∧ e0.k ≤ 10 := by
        have h3 := g3
        unfold rightE rright1 at h3
        rw [Bool.and_eq_true] at h3
        have := (fit_num h3.1).1
        omega
      obtain ⟨u0, y0', hu0⟩ := g2.if' hrng0.1 hrng0.2
      subst hu0
      have y0 := g1.cell 0 rfl
      have HS := Lib.hid (And.intro g1 (And.intro g2 (And.intro g3 g4)))
      clear h1 h2 h3 h4 hv hr hk hS hstep hobk hh hrng g1 g2 g3 g4 hrng0
      go_enter Tryz.func76, Tryz.ntmps76
      go_wp2_with (go_at_call 56; (with_reducible refine (HC.out _).mono ?_); rintro r2 w2 ⟨rfl, rfl⟩)
      go_ret
      exact ⟨rfl, ⟨HV.out.1, HV.out.2.1, HV.out.2.2.1, HV.out.2.2.2.1, _, HS.out⟩, Kept.refl _ _, fun _ h => .inl h⟩
  · obtain ⟨u0, hob⟩ := hobk
    have y0 := hob.cell 0 rfl
    have f0 := hob.free 0 (by simp)
    have HS := Lib.hid hob
    clear h1 h2 h3 h4 h5 hv hr hk hS hstep hh hrng hob
    go_enter Tryz.func76, Tryz.ntmps76
    go_wp2_with (go_at_call 56; (with_reducible refine (HC.out _).mono ?_); rintro r2 w2 ⟨rfl, rfl⟩)
    go_ret
    have hK : Kept (N1 ob) w2 (w2.setCell ⟨ob, 0, none⟩ (.iface u y)) := (Kept.refl _ _).put (p := ⟨ob, 0, none⟩) _ (fun _ => rfl)
    refine ⟨rfl, ⟨HV.out.1.keep hK (fun e => HV.out.2.1 e), HV.out.2.1, HV.out.2.2.1, Nat.lt_of_lt_of_le HV.out.2.2.2.1 hK.size, .iface u y, ?_, HV.out.2.2.2.2.1.keep hK (fun _ _ h => h) (fun x hx e => HV.out.2.2.1 x hx e), HV.out.2.2.2.2.2.1, HV.out.2.2.2.2.2.2⟩, hK, fun _ h => .inl h⟩
    simpa using HS.out.set (j := 0) (.iface u y)
end Go.Proofs.YtbldidiibkcelaaGreatDoor

/-
  AsFace (walk), what it finds (plain). Not a statement of the seat.
-/
namespace Go.Proofs.YtbldidiibkcelaaGreatDoor
open Go.RowKit

/-- the first of a row that has an interface -/
def fndL (m : Int) : Eo → Option Et
  | .nil => none
  | .cons k i c t b cs ks rest => match (if k = 0 then none else if hasK k m then some ⟨k, i, c, t, b, cs, ks⟩ else fndL m ks : Option Et) with
    | some x => some x
    | none => fndL m rest
def fnd1 (m : Int) (e : Et) : Option Et := if e.k = 0 then none else if hasK e.k m then some e else fndL m e.l
theorem fndL_cons (m k i c : Int) (t : Bs) (b : Dt) (cs : List Int) (ks rest : Eo) : fndL m (.cons k i c t b cs ks rest) = match fnd1 m ⟨k, i, c, t, b, cs, ks⟩ with | some x => some x | none => fndL m rest := by
  rw [fndL]
  rfl
theorem visF_L (m : Int) : ∀ (f : Eo) (way : List Int) (j : Nat), visL (stepF m) f none way j = (fndL m f, (fndL m f).isNone)
  | .nil, _, _ => rfl
  | .cons k i c t b cs ks rest, way, j => by
    have h1 : vis1 (stepF m) none ⟨k, i, c, t, b, cs, ks⟩ (way ++ [(j : Int)]) = (fnd1 m ⟨k, i, c, t, b, cs, ks⟩, (fnd1 m ⟨k, i, c, t, b, cs, ks⟩).isNone) := by
      unfold vis1 fnd1
      dsimp only
      by_cases hk : k = 0
      · rw [if_pos hk, if_pos hk]; rfl
      · rw [if_neg hk, if_neg hk]
        cases hh : hasK k m
        · have hs : stepF m none ⟨k, i, c, t, b, cs, ks⟩ (way ++ [(j : Int)]) = (none, true) := by unfold stepF; dsimp only; rw [hh]; rfl
          rw [hs]
          simp [visF_L m ks]
        · have hs : stepF m none ⟨k, i, c, t, b, cs, ks⟩ (way ++ [(j : Int)]) = (some ⟨k, i, c, t, b, cs, ks⟩, false) := by unfold stepF; dsimp only; rw [hh]; rfl
          rw [hs]
          simp
    rw [visL_cons, h1, fndL_cons]
    cases hf : fnd1 m ⟨k, i, c, t, b, cs, ks⟩ with
    | some x => simp
    | none => simp [visF_L m rest]
theorem visF (m : Int) (e : Et) (way : List Int) : vis1 (stepF m) none e way = (fnd1 m e, (fnd1 m e).isNone) := by
  unfold vis1 fnd1
  by_cases hk : e.k = 0
  · rw [if_pos hk, if_pos hk]; rfl
  · rw [if_neg hk, if_neg hk]
    cases hh : hasK e.k m
    · have hs : stepF m none e way = (none, true) := by unfold stepF; rw [hh]; rfl
      rw [hs]
      simp [visF_L m e.l]
    · have hs : stepF m none e way = (some e, false) := by unfold stepF; rw [hh]; rfl
      rw [hs]
      simp
theorem fndL_okS (m : Int) : ∀ (f : Eo) (x : Et), okC f → fndL m f = some x → okS x
  | .nil, _, _, h => by cases h
  | .cons k i c t b cs ks rest, x, hc, h => by
    rw [fndL_cons] at h
    cases hf : fnd1 m ⟨k, i, c, t, b, cs, ks⟩ with
    | some y =>
      rw [hf] at h
      cases h
      unfold fnd1 at hf
      split at hf
      · cases hf
      · split at hf
        · cases hf; exact ⟨hc.1, hc.2.1, hc.2.2.1, hc.2.2.2.1⟩
        · exact fndL_okS m ks x hc.2.2.2.1 hf
    | none =>
      rw [hf] at h
      exact fndL_okS m rest x hc.2.2.2.2 h
theorem fnd1_okS {m : Int} {e x : Et} (hok : okS e) (h : fnd1 m e = some x) : okS x := by
  unfold fnd1 at h
  split at h
  · cases h
  · split at h
    · cases h; exact hok
    · exact fndL_okS m e.l x hok.2.2.2 h
/-- a copy and whether there is one -/
def CLT (f : Bool) (k i c : Int) (t : Bs) (b : Dt) (cs : List Int) (kids : Eo) (w : World) (r : Ending) (w' : World) : Prop := ∃ v, CLE k i c t b cs kids w (.returned v) w' ∧ r = .returned (.tuple #[v, .bool f])
def fw (w : World) (m : Int) (k i c : Int) (t : Bs) (b : Dt) (bl : Option Addr) (bn bc : Nat) (cl : Option Addr) (cn cc : Nat) (l : Option Addr) (n cap : Nat) : World := (zbox ((ebox w k i c t b bl bn bc cl cn cc l n cap).alloc (.cells #[.int .i64 m] 3))).alloc (.cells #[.nilIface] 68)
theorem fw_facts (w : World) (m : Int) (k i c : Int) (t : Bs) (b : Dt) (bl : Option Addr) (bn bc : Nat) (cl : Option Addr) (cn cc : Nat) (l : Option Addr) (n cap : Nat) :
    (Blk (fw w m k i c t b bl bn bc cl cn cc l n cap) w.heap.size (V11 k i c t b bl bn bc cl cn cc l n cap) ∧ Blk (fw w m k i c t b bl bn bc cl cn cc l n cap) (w.heap.size + 1) [.int .i64 m] ∧ Blk (fw w m k i c t b bl bn bc cl cn cc l n cap) (w.heap.size + 2) Z11 ∧ Blk (fw w m k i c t b bl bn bc cl cn cc l n cap) (w.heap.size + 3) [.nilIface]) ∧ Below w.heap.size w (fw w m k i c t b bl bn bc cl cn cc l n cap) ∧ (fw w m k i c t b bl bn bc cl cn cc l n cap).heap.size = w.heap.size + 4 := by
  have e1 := ebox_size w k i c t b bl bn bc cl cn cc l n cap
  have h1 := ebox_blk w k i c t b bl bn bc cl cn cc l n cap
  have hb := ebox_below w k i c t b bl bn bc cl cn cc l n cap
  unfold fw
  generalize ebox w k i c t b bl bn bc cl cn cc l n cap = w1 at *
  have h2 := Blk.new w1 #[.int .i64 m] 3
  have hb2 : Below w1.heap.size w1 (w1.alloc (.cells #[.int .i64 m] 3)) := (Below.refl _ _).alloc (Nat.le_refl _) _
  have e2 : (w1.alloc (.cells #[.int .i64 m] 3)).heap.size = w1.heap.size + 1 := by simp
  generalize w1.alloc (.cells #[.int .i64 m] 3) = w2 at *
  have h3 := zbox_blk w2
  have hb3 := zbox_below w2
  have e3 := zbox_size w2
  generalize zbox w2 = w3 at *
  have h4 := Blk.new w3 #[.nilIface] 68
  have hb4 : Below w3.heap.size w3 (w3.alloc (.cells #[.nilIface] 68)) := (Below.refl _ _).alloc (Nat.le_refl _) _
  have e4 : (w3.alloc (.cells #[.nilIface] 68)).heap.size = w3.heap.size + 1 := by simp
  generalize w3.alloc (.cells #[.nilIface] 68) = w4 at *
  rw [e1] at h2
  rw [show w2.heap.size = w.heap.size + 2 by omega] at h3
  rw [show w3.heap.size = w.heap.size + 3 by omega] at h4
  exact ⟨⟨((h1.below hb2).below hb3).below hb4, (h2.below hb3).below hb4, h3.below hb4, h4⟩, bel_tr (bel_tr (bel_tr hb hb2) hb3) hb4, by omega⟩
theorem ct_fin {fn : Func} {f : Bool} {w w2 wr : World} {kids : Eo} {k i c : Int} {t : Bs} {b : Dt} {cs : List Int} {bl : Option Addr} {bn bc : Nat} {cl : Option Addr} {cn cc : Nat} {l : Option Addr} {n cap z : Nat} {vs : List Value} {tmps : Array Value} (hr : fn.results = #[ResultVar.cell 4 29, ResultVar.tmp 5]) (ht : tmps.getD 4 undef = .pointer (some ⟨z, 0, none⟩)) (ht5 : tmps.getD 5 undef = .bool f)
    (hz : w.heap.size ≤ z ∧ z < w2.heap.size) (hBW : Below w.heap.size w w2) (hZ : Blk wr z Z11) (hF : FoAt (fun x => w2.heap.size ≤ x) wr b.l bl bn bc) (hC : Row w2.heap.size wr 1 cl cn cc (I8 cs)) (hR : Row w2.heap.size wr 11 l n cap vs ∧ EAt (fun x => w2.heap.size ≤ x ∧ blockOf l ≠ some x) wr kids vs) (hB2 : Below w2.heap.size w2 wr) :
    bodyPost Tryz.prog fn (CLT f k i c t b cs kids w) Exit.ret { tmps := tmps, defers := [] } (st11 wr z (.int .i64 k) (.int .i64 i) (.int .i64 c) (.string ⟨t.toArray⟩) (.int .i64 b.k) (.int .i64 b.i) (.int .u64 b.b) (.string ⟨b.t.toArray⟩) (.slice bl bn bc) (.slice cl cn cc) (.slice l n cap)) := by
  have h1 := st11_kept (w := wr) (b := z) (.int .i64 k) (.int .i64 i) (.int .i64 c) (.string ⟨t.toArray⟩) (.int .i64 b.k) (.int .i64 b.i) (.int .u64 b.b) (.string ⟨b.t.toArray⟩) (.slice bl bn bc) (.slice cl cn cc) (.slice l n cap)
  have h' := st11_blk hZ (.int .i64 k) (.int .i64 i) (.int .i64 c) (.string ⟨t.toArray⟩) (.int .i64 b.k) (.int .i64 b.i) (.int .u64 b.b) (.string ⟨b.t.toArray⟩) (.slice bl bn bc) (.slice cl cn cc) (.slice l n cap)
  generalize st11 wr z (.int .i64 k) (.int .i64 i) (.int .i64 c) (.string ⟨t.toArray⟩) (.int .i64 b.k) (.int .i64 b.i) (.int .u64 b.b) (.string ⟨b.t.toArray⟩) (.slice bl bn bc) (.slice cl cn cc) (.slice l n cap) = wz at *
  have ht' : tmps[4]?.getD undef = .pointer (some ⟨z, 0, none⟩) := by simpa using ht
  have ht5' : tmps[5]?.getD undef = .bool f := by simpa using ht5
  have c0 := h'.cell 0 rfl; have c1 := h'.cell 1 rfl; have c2 := h'.cell 2 rfl; have c3 := h'.cell 3 rfl; have c4 := h'.cell 4 rfl; have c5 := h'.cell 5 rfl; have c6 := h'.cell 6 rfl; have c7 := h'.cell 7 rfl; have c8 := h'.cell 8 rfl; have c9 := h'.cell 9 rfl; have c10 := h'.cell 10 rfl
  refine bodyPost_ret (v := .tuple #[vE k i c t b bl bn bc cl cn cc l n cap, .bool f]) ?_ rfl ?_
  · unfold vE
    simp [results, hr, go_sem, ht', ht5', c0, c1, c2, c3, c4, c5, c6, c7, c8, c9, c10]
  have hs := hBW.size
  have hs2 := hB2.size
  refine ⟨_, ⟨bl, bn, bc, cl, cn, cc, l, n, cap, vs, rfl, hF.same (fun x hx hl => h1.block x hl (fun e => ?_)) (fun x hx _ => ?_), (hC.keep h1 (fun x hx e => ?_)).mono (by omega), ⟨(hR.1.keep h1 (fun x hx e => ?_)).mono (by omega), EAt.same _ hR.2 (fun x hx hlt => h1.block x hlt (fun e => ?_)) (fun x hx _ => ⟨?_, hx.2⟩)⟩,
    hBW.trans ((hB2.mono (by omega)).trans (h1.below (by omega) (fun x hx e => by unfold N1 at e; omega)))⟩, rfl⟩
  · have h9 : w2.heap.size ≤ x := hx
    unfold N1 at e; omega
  · have h9 : w2.heap.size ≤ x := hx
    omega
  · have := (hC.lt x hx).1; unfold N1 at e; omega
  · have := (hR.1.lt x hx).1; unfold N1 at e; omega
  · have := hx.1; unfold N1 at e; omega
  · have := hx.1; omega
set_option maxRecDepth 100000 in
set_option maxHeartbeats 16000000 in
theorem asface35 {S : Nat → Prop} {k i c : Int} {t : Bs} {b : Dt} {cs : List Int} {kids : Eo} {bl : Option Addr} {bn bc : Nat} {cl : Option Addr} {cn cc : Nat} {l : Option Addr} {n cap : Nat} {m : Int} {w : World} (hE : ErAt S w ⟨k, i, c, t, b, cs, kids⟩ bl bn bc cl cn cc l n cap) (hS : ∀ x, S x → x < w.heap.size) (hr : rightE ⟨k, i, c, t, b, cs, kids⟩ = true) (hok : okS ⟨k, i, c, t, b, cs, kids⟩) (hd : ehi kids ≤ 1000) :
    Calls Tryz.prog 35 #[vE k i c t b bl bn bc cl cn cc l n cap, .int .i64 m] w (CLT (fnd1 m ⟨k, i, c, t, b, cs, kids⟩).isSome ((fnd1 m ⟨k, i, c, t, b, cs, kids⟩).getD Et.zero).k ((fnd1 m ⟨k, i, c, t, b, cs, kids⟩).getD Et.zero).i ((fnd1 m ⟨k, i, c, t, b, cs, kids⟩).getD Et.zero).c ((fnd1 m ⟨k, i, c, t, b, cs, kids⟩).getD Et.zero).t ((fnd1 m ⟨k, i, c, t, b, cs, kids⟩).getD Et.zero).b ((fnd1 m ⟨k, i, c, t, b, cs, kids⟩).getD Et.zero).cs ((fnd1 m ⟨k, i, c, t, b, cs, kids⟩).getD Et.zero).l w) := by
  obtain ⟨⟨hP, hM, hZ, hO⟩, hB, hsz⟩ := fw_facts w m k i c t b bl bn bc cl cn cc l n cap
  have hmf : ∀ (fn : Fn) (first cap : Array Value) (w : World), (Instr.makeFunc fn first cap).run Tryz.prog w = .ok (.func fn first cap) w := fun _ _ _ _ => rfl
  obtain ⟨p, hp⟩ : ∃ x, x = w.heap.size := ⟨_, rfl⟩
  obtain ⟨cb, hcb⟩ : ∃ x, x = w.heap.size + 1 := ⟨_, rfl⟩
  obtain ⟨z, hz⟩ : ∃ x, x = w.heap.size + 1 + 1 := ⟨_, rfl⟩
  obtain ⟨ob, hob⟩ : ∃ x, x = w.heap.size + 1 + 1 + 1 := ⟨_, rfl⟩
  have HEV := Lib.hid (fun (wx : World) (hx : Below w.heap.size w wx) (h0 : ob < wx.heap.size) => valueEV (N := N1 ob) (hE.same (w' := wx) (fun x _ hl => hx.block x hl) (fun x hx2 _ => hx2)) (fun x h => by unfold N1 at h; omega))
  have HSO := Lib.hid (show ∀ x, S x → x ≠ ob from fun x hx => by have := hS x hx; omega)
  have HS := Lib.hid hS
  have HOK := Lib.hid (fun x => fnd1_okS (m := m) (x := x) hok)
  have hv := visF m ⟨k, i, c, t, b, cs, kids⟩ []
  have HWV := Lib.hid (fun (v : Value) (wx : World) (hst : stF S cb ob m none wx) (hS1 : ∀ x, S x → x < wx.heap.size ∧ ¬ N1 ob x) (hev : EVAt S (N1 ob) wx ⟨k, i, c, t, b, cs, kids⟩ v) =>
    wvG76 (vokF S cb ob m) (cl76 S cb ob m) kids k i c t b cs v hr none [] none 0 0 wx hst hS1 hev (Row.nil 0 _ 1) (fun x hx => by cases hx) (.inl (by show 0 + ehi kids ≤ 1000; omega)))
  rw [hv] at HWV
  generalize fnd1 m ⟨k, i, c, t, b, cs, kids⟩ = fd at *
  unfold vE at HEV ⊢
  unfold F76 at HWV
  clear hE hS hr hok hd hv
  go_enter Tryz.func35, Tryz.ntmps35
  go_upto_region 2 with (fail)
  change Code.wp _ _ _ _ (fw w m k i c t b bl bn bc cl cn cc l n cap)
  generalize fw w m k i c t b bl bn bc cl cn cc l n cap = w1 at *
  rw [← hob, ← hz, ← hcb, ← hp]
  rw [← hp] at hP
  rw [← hcb] at hM
  rw [show w.heap.size + 2 = z by omega] at hZ
  rw [show w.heap.size + 3 = ob by omega] at hO
  have x0 := hP.cell 0 rfl
  have x1 := hP.cell 1 rfl
  have x2 := hP.cell 2 rfl
  have x3 := hP.cell 3 rfl
  have x4 := hP.cell 4 rfl
  have x5 := hP.cell 5 rfl
  have x6 := hP.cell 6 rfl
  have x7 := hP.cell 7 rfl
  have x8 := hP.cell 8 rfl
  have x9 := hP.cell 9 rfl
  have x10 := hP.cell 10 rfl
  have HB := Lib.hid hB
  have HX := Lib.hid (And.intro hM (And.intro hZ hO))
  have HLT := Lib.hid (show w.heap.size ≤ z ∧ z < ob ∧ cb ≠ ob ∧ ob < w1.heap.size ∧ w.heap.size ≤ ob from by omega)
  clear hP hM hZ hO hB hsz hp hcb hz hob
  go_upto_region 3 with (first
    | (go_at_call 50; (with_reducible refine (HEV.out _ HB.out HLT.out.2.2.2.1).mono ?_); intro r2 w2 h2; obtain ⟨v2, rfl, hv2, hB2⟩ := h2
       have HV2 := Lib.hid hv2; have HB2 := Lib.hid (bel_tr HB.out hB2); have HZ2 := Lib.hid (HX.out.2.1.below hB2)
       have HST2 := Lib.hid (show stF S cb ob m none w2 from ⟨HX.out.1.below hB2, HLT.out.2.2.1, HSO.out, Nat.lt_of_lt_of_le HLT.out.2.2.2.1 hB2.size, HX.out.2.2.below hB2⟩)
       have HS2 := Lib.hid (show ∀ x, S x → x < w2.heap.size ∧ ¬ N1 ob x from fun x hx => ⟨Nat.lt_of_lt_of_le (HS.out x hx) HB2.out.size, fun e => HSO.out x hx e⟩)
       clear hv2 hB2)
    | (go_at_call 52; (with_reducible refine (HWV.out _ _ HST2.out HS2.out HV2.out).mono ?_); intro r3 w3 hI; obtain ⟨rfl, hK3⟩ := hI; have HK3 := Lib.hid hK3; clear hK3))
  have hB3 : Below w.heap.size w w3 := HB2.out.trans (HK3.out.k.below (Nat.le_trans (Nat.le_refl _) HB2.out.size) (fun x hx e => by have := HLT.out; unfold N1 at e; omega))
  have HZ3 := Lib.hid (HZ2.out.keep HK3.out.k (fun e => by have := HLT.out; unfold N1 at e; omega))
  have HB3 := Lib.hid hB3
  have HS3 := Lib.hid (show ∀ wx, Below w3.heap.size w3 wx → ∀ x, S x → x < wx.heap.size from fun wx hx x hx' => Nat.lt_of_lt_of_le (HS.out x hx') (Nat.le_trans hB3.size hx.size))
  have hst := HK3.out.s'
  have HB3d := Lib.hid (show Below w.heap.size w w3.drew from bel_dr HB3.out)
  have HZL := Lib.hid (show w.heap.size ≤ z ∧ z < w3.drew.heap.size from ⟨HLT.out.1, show z < w3.heap.size by have h1 := hst.2.2.2.1; have := HLT.out; omega⟩)
  clear hB3 x0 x1 x2 x3 x4 x5 x6 x7 x8 x9 x10
  cases fd with
  | none =>
    obtain ⟨_, _, _, _, ho⟩ := hst
    have ho' : Blk w3 ob [.nilIface] := ho
    have HO := Lib.hid ho'
    have HBK := Lib.hid (fun (wx : World) => bk0 wx)
    clear ho ho'
    have HC3 := HO.out.cell 0 rfl
    have HCD := (HO.out.below (Below.refl _ _).drew).cell 0 rfl
    go_region_held3 (fun wx : World => wx.cell? ⟨ob, 0, none⟩ = some .nilIface)
      (first | with_reducible exact HC3 | with_reducible exact HCD | with_reducible exact HC4 | with_reducible exact HCS)
      (first
        | (go_simp; go_at_call 58; (with_reducible refine (HBK.out _).mono ?_); intro r4 w4 h4; obtain ⟨bl3, bn3, bc3, cl3, cn3, cc3, l3, n3, cap3, vs3, rfl, hF3, hR3, hT3, hB4⟩ := h4
           have HB4 := Lib.hid (bel_tr (Below.refl w3.heap.size w3).drew hB4)
           have HZ9 := Lib.hid (HZ3.out.below HB4.out)
           have HR := Lib.hid (And.intro hF3 (And.intro hR3 (And.intro hT3 hB4)))
           have HC4 := (HO.out.below HB4.out).cell 0 rfl
           have HCS := ((HO.out.below HB4.out).keep (st11_kept (w := w4) (b := z) (.int .i64 0) (.int .i64 0) (.int .i64 0) (.string ⟨[].toArray⟩) (.int .i64 Dt.zero.k) (.int .i64 Dt.zero.i) (.int .u64 Dt.zero.b) (.string ⟨Dt.zero.t.toArray⟩) (.slice bl3 bn3 bc3) (.slice cl3 cn3 cc3) (.slice l3 n3 cap3)) (fun e => by have := HLT.out; unfold N1 at e; omega)).cell 0 rfl
           unfold st11 at HCS
           have c0 := HZ9.out.cell 0 rfl; have f0 := HZ9.out.free 0 (by simp [Z11]); have c1 := HZ9.out.cell 1 rfl; have f1 := HZ9.out.free 1 (by simp [Z11]); have c2 := HZ9.out.cell 2 rfl; have f2 := HZ9.out.free 2 (by simp [Z11]); have c3 := HZ9.out.cell 3 rfl; have f3 := HZ9.out.free 3 (by simp [Z11]); have c4 := HZ9.out.cell 4 rfl; have f4 := HZ9.out.free 4 (by simp [Z11]); have c5 := HZ9.out.cell 5 rfl; have f5 := HZ9.out.free 5 (by simp [Z11]); have c6 := HZ9.out.cell 6 rfl; have f6 := HZ9.out.free 6 (by simp [Z11]); have c7 := HZ9.out.cell 7 rfl; have f7 := HZ9.out.free 7 (by simp [Z11]); have c8 := HZ9.out.cell 8 rfl; have f8 := HZ9.out.free 8 (by simp [Z11]); have c9 := HZ9.out.cell 9 rfl; have f9 := HZ9.out.free 9 (by simp [Z11]); have c10 := HZ9.out.cell 10 rfl; have f10 := HZ9.out.free 10 (by simp [Z11])
           unfold vE
           clear hF3 hR3 hT3 hB4))
    all_goals
      go_wp2_with fail
      exact ct_fin Tryz.results35 rfl rfl HZL.out HB3d.out HZ9.out HR.out.1 HR.out.2.1 HR.out.2.2.1 HR.out.2.2.2
  | some e1 =>
    obtain ⟨_, _, _, _, v1, ho, hev, hr1, hk1⟩ := hst
    have hrng : 1 ≤ e1.k ∧ e1.k ≤ 10 := by
      have h3 := hr1
      unfold rightE rright1 at h3
      rw [Bool.and_eq_true] at h3
      have := (fit_num h3.1).1
      omega
    obtain ⟨u1, y1, hu⟩ := hev.if' hrng.1 hrng.2
    have HO := Lib.hid ho
    have HBK := Lib.hid (fun (wx : World) (hx : Below w3.heap.size w3 wx) => back58 (hev.below hx (fun x hx e => HSO.out x hx e)) hr1 (HS3.out wx hx) (HOK.out e1 rfl))
    clear ho hev hr1 hk1 hrng
    subst hu
    have HC3 := HO.out.cell 0 rfl
    have HCD := (HO.out.below (Below.refl _ _).drew).cell 0 rfl
    go_region_held3 (fun wx : World => wx.cell? ⟨ob, 0, none⟩ = some (.iface u1 y1))
      (first | with_reducible exact HC3 | with_reducible exact HCD | with_reducible exact HC4 | with_reducible exact HCS)
      (first
        | (go_simp; go_at_call 58; (with_reducible refine (HBK.out _ (Below.refl _ _).drew).mono ?_); intro r4 w4 h4; obtain ⟨bl3, bn3, bc3, cl3, cn3, cc3, l3, n3, cap3, vs3, rfl, hF3, hR3, hT3, hB4⟩ := h4
           have HB4 := Lib.hid (bel_tr (Below.refl w3.heap.size w3).drew hB4)
           have HZ9 := Lib.hid (HZ3.out.below HB4.out)
           have HR := Lib.hid (And.intro hF3 (And.intro hR3 (And.intro hT3 hB4)))
           have HC4 := (HO.out.below HB4.out).cell 0 rfl
           have HCS := ((HO.out.below HB4.out).keep (st11_kept (w := w4) (b := z) (.int .i64 e1.k) (.int .i64 e1.i) (.int .i64 e1.c) (.string ⟨e1.t.toArray⟩) (.int .i64 e1.b.k) (.int .i64 e1.b.i) (.int .u64 e1.b.b) (.string ⟨e1.b.t.toArray⟩) (.slice bl3 bn3 bc3) (.slice cl3 cn3 cc3) (.slice l3 n3 cap3)) (fun e => by have := HLT.out; unfold N1 at e; omega)).cell 0 rfl
           unfold st11 at HCS
           have c0 := HZ9.out.cell 0 rfl; have f0 := HZ9.out.free 0 (by simp [Z11]); have c1 := HZ9.out.cell 1 rfl; have f1 := HZ9.out.free 1 (by simp [Z11]); have c2 := HZ9.out.cell 2 rfl; have f2 := HZ9.out.free 2 (by simp [Z11]); have c3 := HZ9.out.cell 3 rfl; have f3 := HZ9.out.free 3 (by simp [Z11]); have c4 := HZ9.out.cell 4 rfl; have f4 := HZ9.out.free 4 (by simp [Z11]); have c5 := HZ9.out.cell 5 rfl; have f5 := HZ9.out.free 5 (by simp [Z11]); have c6 := HZ9.out.cell 6 rfl; have f6 := HZ9.out.free 6 (by simp [Z11]); have c7 := HZ9.out.cell 7 rfl; have f7 := HZ9.out.free 7 (by simp [Z11]); have c8 := HZ9.out.cell 8 rfl; have f8 := HZ9.out.free 8 (by simp [Z11]); have c9 := HZ9.out.cell 9 rfl; have f9 := HZ9.out.free 9 (by simp [Z11]); have c10 := HZ9.out.cell 10 rfl; have f10 := HZ9.out.free 10 (by simp [Z11])
           unfold vE
           clear hF3 hR3 hT3 hB4))
    all_goals
      go_wp2_with fail
      exact ct_fin Tryz.results35 rfl rfl HZL.out HB3d.out HZ9.out HR.out.1 HR.out.2.1 HR.out.2.2.1 HR.out.2.2.2
end Go.Proofs.YtbldidiibkcelaaGreatDoor

/-
  The document's AsFace (walk). Not a statement of the seat.
-/
namespace Go.Proofs.YtbldidiibkcelaaGreatDoor
open Go.RowKit

theorem fndL_app (m : Int) : ∀ (f g : Eo), fndL m (f.app g) = match fndL m f with | some x => some x | none => fndL m g
  | .nil, _ => rfl
  | .cons k i c t b cs ks rest, g => by
    rw [Eo.app, fndL_cons, fndL_cons, fndL_app m rest g]
    cases fnd1 m ⟨k, i, c, t, b, cs, ks⟩ with
    | some x => rfl
    | none => rfl
theorem has0 (m : Int) : hasK 0 m = false := by
  unfold hasK
  (repeat' split) <;> rfl
theorem fnd1_pos {m : Int} {e : Et} (hr : rightE e = true) : fnd1 m e = if hasK e.k m then some e else fndL m e.l := by
  unfold fnd1
  by_cases hk : e.k = 0
  · rw [if_pos hk, hk, has0]
    have h := right_zero hr hk
    rw [h]
    rfl
  · rw [if_neg hk]
def RAFOK (m : Int) (kids : Eo) : Prop := ∀ (k i c : Int) (t : Bs) (b : Dt) (cs : List Int) (bl : Option Addr) (bn bc : Nat) (cl : Option Addr) (cn cc : Nat) (l : Option Addr) (n cap : Nat) (S : Nat → Prop) (w : World), ErAt S w ⟨k, i, c, t, b, cs, kids⟩ bl bn bc cl cn cc l n cap → (∀ x, S x → x < w.heap.size) → rightE ⟨k, i, c, t, b, cs, kids⟩ = true → okS ⟨k, i, c, t, b, cs, kids⟩ →
  Calls Tryz.prog 36 #[vE k i c t b bl bn bc cl cn cc l n cap, .int .i64 m] w (CLT (fnd1 m ⟨k, i, c, t, b, cs, kids⟩).isSome ((fnd1 m ⟨k, i, c, t, b, cs, kids⟩).getD Et.zero).k ((fnd1 m ⟨k, i, c, t, b, cs, kids⟩).getD Et.zero).i ((fnd1 m ⟨k, i, c, t, b, cs, kids⟩).getD Et.zero).c ((fnd1 m ⟨k, i, c, t, b, cs, kids⟩).getD Et.zero).t ((fnd1 m ⟨k, i, c, t, b, cs, kids⟩).getD Et.zero).b ((fnd1 m ⟨k, i, c, t, b, cs, kids⟩).getD Et.zero).cs ((fnd1 m ⟨k, i, c, t, b, cs, kids⟩).getD Et.zero).l w)
def RaRel (m : Int) (kids : Eo) (w1 : World) (t18 : Value) (wr : World) : Prop := ∃ dn rest : Eo, t18 = .int .i64 (dn.len : Nat) ∧ kids = dn.app rest ∧ fndL m dn = none ∧ Below w1.heap.size w1 wr
theorem CLT.ahead {f : Bool} {k i c : Int} {t : Bs} {b : Dt} {cs : List Int} {kids : Eo} {w : World} {r : Ending} {w' : World} (h : CLT f k i c t b cs kids w r w') : ∃ bl bn bc cl cn cc l n cap vs, r = .returned (.tuple #[vE k i c t b bl bn bc cl cn cc l n cap, .bool f]) ∧ FoAt (fun x => w.heap.size ≤ x) w' b.l bl bn bc ∧ Row w.heap.size w' 1 cl cn cc (I8 cs) ∧ (Row w.heap.size w' 11 l n cap vs ∧ EAt (fun x => w.heap.size ≤ x ∧ blockOf l ≠ some x) w' kids vs) ∧ Below w.heap.size w w' := by
  obtain ⟨v, ⟨bl, bn, bc, cl, cn, cc, l, n, cap, vs, hv, h1⟩, rfl⟩ := h
  cases hv
  exact ⟨bl, bn, bc, cl, cn, cc, l, n, cap, vs, rfl, h1⟩
set_option maxRecDepth 100000 in
set_option maxHeartbeats 16000000 in
theorem rasfaceN {m : Int} {kids : Eo} (hall : kids.All (RAFOK m)) : RAFOK m kids := by
  intro k i c t b cs bl bn bc cl cn cc l n cap S w hE hS hr hok
  obtain ⟨⟨hP, hZ⟩, hB, hsz⟩ := clw2_facts w k i c t b bl bn bc cl cn cc l n cap
  have HF := Lib.hid hE.2.2
  have HLEN := Lib.hid (show kids.len = n from hE.2.2.len)
  have hnb : n ≤ 100000 := by have h1 : kids.len = n := hE.2.2.len; have := hok.2.2.1; dsimp only at this; omega
  have HEX := Lib.hid (fun (wx : World) (hx : Below w.heap.size w wx) => ecopyG kids k i c t b cs bl bn bc cl cn cc l n cap S wx (hE.same (w' := wx) (fun x _ hl => hx.block x hl) (fun x hx2 _ => hx2)) (fun x hx2 => Nat.lt_of_lt_of_le (hS x hx2) hx.size) hok.1 hok.2.1 hok.2.2.1 hok.2.2.2)
  have HH := Lib.hid (fun (wx : World) => rhasN k m wx)
  have HS := Lib.hid hS
  have HALL := Lib.hid (And.intro hall (And.intro hr hok))
  have HFD := Lib.hid (fnd1_pos (m := m) hr)
  dsimp only at HFD
  generalize fnd1 m ⟨k, i, c, t, b, cs, kids⟩ = fd at *
  unfold vE at HEX ⊢
  clear hE hS hall hr hok
  go_enter Tryz.func36, Tryz.ntmps36
  go_upto_region 1 with (fail)
  change Code.wp _ _ _ _ (clw2 w k i c t b bl bn bc cl cn cc l n cap)
  generalize clw2 w k i c t b bl bn bc cl cn cc l n cap = w1 at *
  obtain ⟨z, hz⟩ : ∃ z, z = w.heap.size + 1 := ⟨_, rfl⟩
  obtain ⟨p, hp⟩ : ∃ q, q = w.heap.size := ⟨_, rfl⟩
  rw [← hp] at hP
  rw [← hz] at hZ
  rw [← hz, ← hp]
  have HB := Lib.hid hB
  have HZ := Lib.hid hZ
  have HP := Lib.hid hP
  have HLT := Lib.hid (show w.heap.size ≤ z ∧ z < w1.heap.size ∧ w.heap.size ≤ w1.heap.size from by omega)
  have x0 := hP.cell 0 rfl
  have x1 := hP.cell 1 rfl
  have x2 := hP.cell 2 rfl
  have x3 := hP.cell 3 rfl
  have x4 := hP.cell 4 rfl
  have x5 := hP.cell 5 rfl
  have x6 := hP.cell 6 rfl
  have x7 := hP.cell 7 rfl
  have x8 := hP.cell 8 rfl
  have x9 := hP.cell 9 rfl
  have x10 := hP.cell 10 rfl
  clear hP hZ hB hsz hp hz
  generalize hasK k m = h at *
  cases h
  rotate_left
  · go_wp2_with (first
      | (go_at_call 20; (with_reducible refine (HH.out _).mono ?_); rintro r2 w2 ⟨rfl, rfl⟩)
      | (go_at_call 25; (with_reducible refine (HEX.out _ HB.out).mono ?_); intro r4 w4 h4; obtain ⟨bl3, bn3, bc3, cl3, cn3, cc3, l3, n3, cap3, vs3, rfl, hF3, hR3, hT3, hB4⟩ := h4
         have HZ9 := Lib.hid (HZ.out.below hB4)
         have HR := Lib.hid (And.intro hF3 (And.intro hR3 (And.intro hT3 hB4)))
         have c0 := HZ9.out.cell 0 rfl; have f0 := HZ9.out.free 0 (by simp [Z11]); have c1 := HZ9.out.cell 1 rfl; have f1 := HZ9.out.free 1 (by simp [Z11]); have c2 := HZ9.out.cell 2 rfl; have f2 := HZ9.out.free 2 (by simp [Z11]); have c3 := HZ9.out.cell 3 rfl; have f3 := HZ9.out.free 3 (by simp [Z11]); have c4 := HZ9.out.cell 4 rfl; have f4 := HZ9.out.free 4 (by simp [Z11]); have c5 := HZ9.out.cell 5 rfl; have f5 := HZ9.out.free 5 (by simp [Z11]); have c6 := HZ9.out.cell 6 rfl; have f6 := HZ9.out.free 6 (by simp [Z11]); have c7 := HZ9.out.cell 7 rfl; have f7 := HZ9.out.free 7 (by simp [Z11]); have c8 := HZ9.out.cell 8 rfl; have f8 := HZ9.out.free 8 (by simp [Z11]); have c9 := HZ9.out.cell 9 rfl; have f9 := HZ9.out.free 9 (by simp [Z11]); have c10 := HZ9.out.cell 10 rfl; have f10 := HZ9.out.free 10 (by simp [Z11])
         unfold vE
         clear hF3 hR3 hT3 hB4))
    rw [HFD.out]
    exact ct_fin Tryz.results36 rfl rfl ⟨HLT.out.1, HLT.out.2.1⟩ HB.out HZ9.out HR.out.1 HR.out.2.1 HR.out.2.2.1 HR.out.2.2.2
  have HFL := Lib.hid (show fd = fndL m kids from HFD.out)
  have H0 := Lib.hid (show RaRel m kids w1 (.int .i64 0) w1 from ⟨.nil, kids, rfl, rfl, rfl, Below.refl _ _⟩)
  clear HFD
  go_wp2_with (go_at_call 20; (with_reducible refine (HH.out _).mono ?_); rintro r2 w2 ⟨rfl, rfl⟩)
  clear x0 x1 x2 x3 x4 x5 x6 x7 x8 x9 x10
  go_loopw [18] (fun t18 wr => RaRel m kids w2 t18 wr) (fun t18 _ => n - (intOf t18).toNat)
  case atStart => exact H0.out
  case round =>
    clear H0
    obtain ⟨dn, rest, rfl, hk, hfd, hBr⟩ := hrel
    have hlen := HLEN.out
    rw [hk, Eo.len_app] at hlen
    have HZR := Lib.hid (HZ.out.below hBr)
    have HBr := Lib.hid (bel_tr HB.out hBr)
    have HB1 := Lib.hid hBr
    cases rest with
    | nil =>
      have hj : ¬ (dn.len : Int) < (n : Int) := by have : Eo.len .nil = 0 := rfl; omega
      have HN := Lib.hid (show fd = none by rw [HFL.out, hk, Eo.app_nil, hfd])
      have c0 := HZR.out.cell 0 rfl; have f0 := HZR.out.free 0 (by simp [Z11]); have c1 := HZR.out.cell 1 rfl; have f1 := HZR.out.free 1 (by simp [Z11]); have c2 := HZR.out.cell 2 rfl; have f2 := HZR.out.free 2 (by simp [Z11]); have c3 := HZR.out.cell 3 rfl; have f3 := HZR.out.free 3 (by simp [Z11]); have c4 := HZR.out.cell 4 rfl; have f4 := HZR.out.free 4 (by simp [Z11]); have c5 := HZR.out.cell 5 rfl; have f5 := HZR.out.free 5 (by simp [Z11]); have c6 := HZR.out.cell 6 rfl; have f6 := HZR.out.free 6 (by simp [Z11]); have c7 := HZR.out.cell 7 rfl; have f7 := HZR.out.free 7 (by simp [Z11]); have c8 := HZR.out.cell 8 rfl; have f8 := HZR.out.free 8 (by simp [Z11]); have c9 := HZR.out.cell 9 rfl; have f9 := HZR.out.free 9 (by simp [Z11]); have c10 := HZR.out.cell 10 rfl; have f10 := HZR.out.free 10 (by simp [Z11])
      clear hk hlen hfd hBr
      go_wp2_with fail
      rw [HN.out]
      exact ct_fin (f := false) (kids := .nil) (k := 0) (i := 0) (c := 0) (t := []) (b := Dt.zero) (cs := []) (bl := none) (bn := 0) (bc := 0) (cl := none) (cn := 0) (cc := 0) (l := none) (n := 0) (cap := 0) (vs := []) (w2 := wr) Tryz.results36 rfl rfl ⟨HLT.out.1, Nat.lt_of_lt_of_le HLT.out.2.1 HB1.out.size⟩ HBr.out HZR.out (FoAt.nil _ _) (Row.nil _ _ _) ⟨Row.nil _ _ _, rfl⟩ (Below.refl _ _)
    | cons k2 i2 c2 t2 b2 cs2 ks r2 =>
      have hlr : (Eo.cons k2 i2 c2 t2 b2 cs2 ks r2).len = r2.len + 1 := rfl
      have hF := HF.out.same (w' := wr) (fun x _ hlt => HBr.out.block x hlt) (fun x hx _ => hx)
      rw [hk] at hF
      obtain ⟨bb, off, bl2, bn2, bc2, cl2, cn2, cc2, a2, n2, cp2, rfl, hkF, he, _, hjn⟩ := hF.elem
      have e0 := he 0 (by omega)
      have e1 := he 1 (by omega)
      have e2 := he 2 (by omega)
      have e3 := he 3 (by omega)
      have e4 := he 4 (by omega)
      have e5 := he 5 (by omega)
      have e6 := he 6 (by omega)
      have e7 := he 7 (by omega)
      have e8 := he 8 (by omega)
      have e9 := he 9 (by omega)
      have e10 := he 10 (by omega)
      simp only [V11, List.getElem?_cons_zero, List.getElem?_cons_succ, Nat.add_zero] at e0 e1 e2 e3 e4 e5 e6 e7 e8 e9 e10
      have hj : (dn.len : Int) < (n : Int) := by omega
      obtain ⟨hall, hr, hok⟩ := HALL.out
      have hOK : RAFOK m ks := by
        rw [hk] at hall
        exact (Eo.All.split dn hall).1
      have hr2 : rightE ⟨k2, i2, c2, t2, b2, cs2, ks⟩ = true := by
        have h3 := hr
        unfold rightE rright1 at h3
        rw [Bool.and_eq_true] at h3
        have h4 := h3.2
        dsimp only at h4
        rw [hk] at h4
        exact right_head (rrightL_app _ dn h4)
      have hok2 : okS ⟨k2, i2, c2, t2, b2, cs2, ks⟩ := by
        have h4 := okC_app dn (hk ▸ hok.2.2.2 : okC (dn.app (.cons k2 i2 c2 t2 b2 cs2 ks r2)))
        exact ⟨h4.1, h4.2.1, h4.2.2.1, h4.2.2.2.1⟩
      have HC := Lib.hid (hOK k2 i2 c2 t2 b2 cs2 bl2 bn2 bc2 cl2 cn2 cc2 a2 n2 cp2 S wr hkF (fun x hx2 => Nat.lt_of_lt_of_le (HS.out x hx2) HBr.out.size) hr2 hok2)
      unfold vE at HC
      have hfl : fd = match fnd1 m ⟨k2, i2, c2, t2, b2, cs2, ks⟩ with | some x => some x | none => fndL m r2 := by
        rw [HFL.out, hk, fndL_app, hfd, fndL_cons] <;> rfl
      have hfn : fnd1 m ⟨k2, i2, c2, t2, b2, cs2, ks⟩ = none → fndL m (dn.app (.cons k2 i2 c2 t2 b2 cs2 ks .nil)) = none := fun h => by
        rw [fndL_app, hfd, fndL_cons, h]
        rfl
      have HKK := Lib.hid hk
      have HFN := Lib.hid (And.intro hfl hfn)
      have x10 := (HP.out.below hBr).cell 10 rfl
      generalize hjj : dn.len = j at *
      have HJJ := Lib.hid hjj
      have HJ := Lib.hid hjn
      clear hk hlen hF hkF he hlr hall hr hok hOK hr2 hok2 hfl hfn hfd hBr hjj
      generalize fnd1 m ⟨k2, i2, c2, t2, b2, cs2, ks⟩ = fe at *
      go_upto_region 7 with (first
        | (go_at_call 36; (with_reducible refine HC.out.mono ?_); intro r4 w4 h4; obtain ⟨bl3, bn3, bc3, cl3, cn3, cc3, l3, n3, cap3, vs3, rfl, hF3, hR3, hT3, hB4⟩ := CLT.ahead h4
           have HR := Lib.hid (And.intro hF3 (And.intro hR3 (And.intro hT3 hB4)))
           unfold vE
           clear hF3 hR3 hT3 hB4 h4))
      change Code.wp _ _ _ _ (ebox w4 (fe.getD Et.zero).k (fe.getD Et.zero).i (fe.getD Et.zero).c (fe.getD Et.zero).t (fe.getD Et.zero).b bl3 bn3 bc3 cl3 cn3 cc3 l3 n3 cap3)
      have hY := ebox_blk w4 (fe.getD Et.zero).k (fe.getD Et.zero).i (fe.getD Et.zero).c (fe.getD Et.zero).t (fe.getD Et.zero).b bl3 bn3 bc3 cl3 cn3 cc3 l3 n3 cap3
      have hB5 := ebox_below w4 (fe.getD Et.zero).k (fe.getD Et.zero).i (fe.getD Et.zero).c (fe.getD Et.zero).t (fe.getD Et.zero).b bl3 bn3 bc3 cl3 cn3 cc3 l3 n3 cap3
      generalize ebox w4 (fe.getD Et.zero).k (fe.getD Et.zero).i (fe.getD Et.zero).c (fe.getD Et.zero).t (fe.getD Et.zero).b bl3 bn3 bc3 cl3 cn3 cc3 l3 n3 cap3 = w5 at *
      obtain ⟨y, hy⟩ : ∃ x, x = w4.heap.size := ⟨_, rfl⟩
      rw [← hy] at hY
      rw [← hy]
      have HB5 := Lib.hid hB5
      have hjn := HJ.out
      clear e0 e1 e2 e3 e4 e5 e6 e7 e8 e9 e10
      cases fe with
      | none =>
        clear hY hB5 hy
        go_wp2_with fail
        go_roundw
        case rel =>
          exact ⟨dn.app (.cons k2 i2 c2 t2 b2 cs2 ks .nil), r2, by rw [Eo.len_app, HJJ.out]; simp [Eo.len], by rw [Eo.app_assoc]; exact HKK.out, HFN.out.2 rfl, bel_tr (bel_tr HB1.out HR.out.2.2.2) HB5.out⟩
        case measure => simp [intOf]; omega
      | some x =>
        have hY' : Blk w5 y (V11 x.k x.i x.c x.t x.b bl3 bn3 bc3 cl3 cn3 cc3 l3 n3 cap3) := hY
        have y0 := hY'.cell 0 rfl
        have y1 := hY'.cell 1 rfl
        have y2 := hY'.cell 2 rfl
        have y3 := hY'.cell 3 rfl
        have y4 := hY'.cell 4 rfl
        have y5 := hY'.cell 5 rfl
        have y6 := hY'.cell 6 rfl
        have y7 := hY'.cell 7 rfl
        have y8 := hY'.cell 8 rfl
        have y9 := hY'.cell 9 rfl
        have y10 := hY'.cell 10 rfl
        have HZ9 := Lib.hid ((HZR.out.below HR.out.2.2.2).below hB5)
        have c0 := HZ9.out.cell 0 rfl; have f0 := HZ9.out.free 0 (by simp [Z11]); have c1 := HZ9.out.cell 1 rfl; have f1 := HZ9.out.free 1 (by simp [Z11]); have c2 := HZ9.out.cell 2 rfl; have f2 := HZ9.out.free 2 (by simp [Z11]); have c3 := HZ9.out.cell 3 rfl; have f3 := HZ9.out.free 3 (by simp [Z11]); have c4 := HZ9.out.cell 4 rfl; have f4 := HZ9.out.free 4 (by simp [Z11]); have c5 := HZ9.out.cell 5 rfl; have f5 := HZ9.out.free 5 (by simp [Z11]); have c6 := HZ9.out.cell 6 rfl; have f6 := HZ9.out.free 6 (by simp [Z11]); have c7 := HZ9.out.cell 7 rfl; have f7 := HZ9.out.free 7 (by simp [Z11]); have c8 := HZ9.out.cell 8 rfl; have f8 := HZ9.out.free 8 (by simp [Z11]); have c9 := HZ9.out.cell 9 rfl; have f9 := HZ9.out.free 9 (by simp [Z11]); have c10 := HZ9.out.cell 10 rfl; have f10 := HZ9.out.free 10 (by simp [Z11])
        have HN := Lib.hid (show fd = some x from HFN.out.1)
        have HR5 := Lib.hid (show FoAt (fun q => wr.heap.size ≤ q) w5 x.b.l bl3 bn3 bc3 ∧ Row wr.heap.size w5 1 cl3 cn3 cc3 (I8 x.cs) ∧ (Row wr.heap.size w5 11 l3 n3 cap3 vs3 ∧ EAt (fun q => wr.heap.size ≤ q ∧ blockOf l3 ≠ some q) w5 x.l vs3) ∧ Below wr.heap.size wr w5 from by
          obtain ⟨g1, g2, g3, g4⟩ := HR.out
          exact ⟨g1.same (fun q _ hl => hB5.block q hl) (fun _ hq _ => hq), g2.below hB5, ⟨g3.1.below hB5, EAt.same _ g3.2 (fun q _ hl => hB5.block q hl) (fun _ hq _ => hq)⟩, bel_tr g4 hB5⟩)
        clear hY hY' hB5 hy
        go_wp2_with fail
        rw [HN.out]
        exact ct_fin (w2 := wr) (f := true) Tryz.results36 rfl rfl ⟨HLT.out.1, Nat.lt_of_lt_of_le HLT.out.2.1 HB1.out.size⟩ HBr.out HZ9.out HR5.out.1 HR5.out.2.1 HR5.out.2.2.1 HR5.out.2.2.2
theorem raAll (m : Int) : ∀ f : Eo, f.All (RAFOK m)
  | .nil => trivial
  | .cons _ _ _ _ _ _ kids rest => ⟨rasfaceN (raAll m kids), raAll m rest⟩
theorem rasfaceG (m : Int) (kids : Eo) : RAFOK m kids := rasfaceN (raAll m kids)
end Go.Proofs.YtbldidiibkcelaaGreatDoor

