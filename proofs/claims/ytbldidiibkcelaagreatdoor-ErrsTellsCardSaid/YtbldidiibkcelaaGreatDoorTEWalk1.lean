/-
  An error value in memory; Is's inner closure at any of them. Not a statement of the seat.
-/
import Derived.Test.YtbldidiibkcelaaGreatDoorTEIsC1
import Derived.Deep.AppendSrc
import Derived.Test.YtbldidiibkcelaaGreatDoorTHeldL
namespace Go.Proofs.YtbldidiibkcelaaGreatDoor
open Go.RowKit

/-- the value of an error, in memory apart from the blocks of N -/
def EVAt (S N : Nat → Prop) (w : World) (e : Et) (v : Value) : Prop :=
  ∃ bl bn bc cl cn cc l n cap q p, v = vErr e.k e.c e.t cl cn cc q p ∧ ErAt S w e bl bn bc cl cn cc l n cap ∧
    (e.k = 5 → Blk w q (V11 e.k e.i e.c e.t e.b bl bn bc cl cn cc l n cap) ∧ ¬ N q) ∧ (isPt e.k → Blk w p (V11 e.k e.i e.c e.t e.b bl bn bc cl cn cc l n cap) ∧ ¬ N p)
theorem EVAt.keep {S N N' : Nat → Prop} {w w' : World} {e : Et} {v : Value} (h : EVAt S N w e v) (hK : Kept N' w w') (hN : ∀ x, x < w.heap.size → N' x → N x) (hS : ∀ x, S x → ¬ N x) : EVAt S N w' e v := by
  obtain ⟨bl, bn, bc, cl, cn, cc, l, n, cap, q, p, h1, h2, h3, h4⟩ := h
  exact ⟨bl, bn, bc, cl, cn, cc, l, n, cap, q, p, h1, h2.same (fun x hx hl => hK.block x hl (fun e => hS x hx (hN x hl e))) (fun x hx _ => hx), fun e => ⟨(h3 e).1.keep hK (fun he => (h3 e).2 (hN _ (h3 e).1.1 he)), (h3 e).2⟩, fun e => ⟨(h4 e).1.keep hK (fun he => (h4 e).2 (hN _ (h4 e).1.1 he)), (h4 e).2⟩⟩
theorem EVAt.below {S N : Nat → Prop} {w w' : World} {e : Et} {v : Value} (h : EVAt S N w e v) (hB : Below w.heap.size w w') (hS : ∀ x, S x → ¬ N x) : EVAt S N w' e v := h.keep (N' := fun _ => False) (Kept.of' hB) (fun _ _ h => h.elim) hS
theorem EVAt.mono {S N N' : Nat → Prop} {w : World} {e : Et} {v : Value} (h : EVAt S N w e v) (hN : ∀ x, x < w.heap.size → N' x → N x) : EVAt S N' w e v := by
  obtain ⟨bl, bn, bc, cl, cn, cc, l, n, cap, q, p, h1, h2, h3, h4⟩ := h
  exact ⟨bl, bn, bc, cl, cn, cc, l, n, cap, q, p, h1, h2, fun e => ⟨(h3 e).1, fun hx => (h3 e).2 (hN _ (h3 e).1.1 hx)⟩, fun e => ⟨(h4 e).1, fun hx => (h4 e).2 (hN _ (h4 e).1.1 hx)⟩⟩
/-- the target of Is, where its walk finds it -/
def TG (a0 : Addr) (S : Nat → Prop) (fb tb tt : Nat) (T : Et) (w : World) : Prop :=
  (∃ bl' bn' bc' cl' cn' cc' l' n' cap' q' p', FoAt S w T.b.l bl' bn' bc' ∧ Blk w tb (V11 T.k T.i T.c T.t T.b bl' bn' bc' cl' cn' cc' l' n' cap') ∧ Blk w tt [vErr T.k T.c T.t cl' cn' cc' q' p']) ∧
    LB a0 w ∧ 0 < w.heap.size ∧ (tb ≠ fb ∧ tt ≠ fb ∧ fb ≠ 0) ∧ (T.k = 5 → okB T.b) ∧ (1 ≤ T.k ∧ T.k ≤ 10) ∧ (∀ x, S x → x < w.heap.size ∧ x ≠ fb)
theorem TG.keep {a0 : Addr} {S : Nat → Prop} {fb tb tt : Nat} {T : Et} {w w' : World} (h : TG a0 S fb tb tt T w) (hK : Kept (N1 fb) w w') : TG a0 S fb tb tt T w' := by
  obtain ⟨⟨bl', bn', bc', cl', cn', cc', l', n', cap', q', p', h1, h2, h3⟩, h4, h5, h6, h7, h8, h9⟩ := h
  refine ⟨⟨bl', bn', bc', cl', cn', cc', l', n', cap', q', p', h1.same (fun x hx hl => hK.block x hl (fun e => (h9 x hx).2 e)) (fun x hx _ => hx), h2.keep hK (fun e => h6.1 e), h3.keep hK (fun e => h6.2.1 e)⟩, ?_, Nat.lt_of_lt_of_le h5 hK.size, h6, h7, h8, fun x hx => ⟨Nat.lt_of_lt_of_le (h9 x hx).1 hK.size, (h9 x hx).2⟩⟩
  exact (World.cell?_of_block (a := ⟨0, 0, none⟩) (hK.block 0 h5 (fun e => h6.2.2 e.symm))).trans h4
theorem TG.below {a0 : Addr} {S : Nat → Prop} {fb tb tt : Nat} {T : Et} {w w' : World} (h : TG a0 S fb tb tt T w) (hB : Below w.heap.size w w') : TG a0 S fb tb tt T w' := h.keep (Kept.of' hB)
end Go.Proofs.YtbldidiibkcelaaGreatDoor

/-
  What an error value wraps (walks). Not a statement of the seat.
-/
namespace Go.Proofs.YtbldidiibkcelaaGreatDoor
open Go.RowKit

/-- a value has come back -/
def VAL (S N : Nat → Prop) (e1 : Et) (w : World) (e : Ending) (w' : World) : Prop := ∃ v, e = .returned v ∧ EVAt S N w' e1 v ∧ Below w.heap.size w w'
theorem valueEV {S N : Nat → Prop} {k i c : Int} {t : Bs} {b : Dt} {cs : List Int} {kids : Eo} {bl : Option Addr} {bn bc : Nat} {cl : Option Addr} {cn cc : Nat} {l : Option Addr} {n cap : Nat} {w : World} (hE : ErAt S w ⟨k, i, c, t, b, cs, kids⟩ bl bn bc cl cn cc l n cap) (hf : ∀ x, N x → x < w.heap.size) :
    Calls Tryz.prog 50 #[vE k i c t b bl bn bc cl cn cc l n cap] w (VAL S N ⟨k, i, c, t, b, cs, kids⟩ w) := by
  refine (evalueN k i c t b bl bn bc cl cn cc l n cap w).mono ?_
  rintro e w' ⟨rfl, hB, hq, hp⟩
  exact ⟨_, rfl, ⟨bl, bn, bc, cl, cn, cc, l, n, cap, _, _, rfl, hE.same (fun x _ hl => hB.block x hl) (fun x hx _ => hx), fun _ => ⟨hq, fun h => by have := hf _ h; omega⟩, fun e => ⟨hp e, fun h => by have := hf _ h; omega⟩⟩, hB⟩
set_option maxRecDepth 100000 in
set_option maxHeartbeats 4000000 in
theorem unw149 {S N : Nat → Prop} {p : Nat} {w : World} {k i c : Int} {t : Bs} {b : Dt} {bl : Option Addr} {bn bc : Nat} {cl : Option Addr} {cn cc : Nat} {l : Option Addr} {n cap : Nat} {k2 i2 c2 : Int} {t2 : Bs} {b2 : Dt} {cs2 : List Int} {ks : Eo} (hW : Blk w p (V11 k i c t b bl bn bc cl cn cc l n cap)) (hF : EoAt S w (.cons k2 i2 c2 t2 b2 cs2 ks .nil) l n cap) (hf : ∀ x, N x → x < w.heap.size) :
    Calls Tryz.prog 149 #[.pointer (some ⟨p, 0, none⟩)] w (VAL S N ⟨k2, i2, c2, t2, b2, cs2, ks⟩ w) := by
  have hn : 1 = n := hF.len
  obtain ⟨bb, off, bl2, bn2, bc2, cl2, cn2, cc2, a2, n2, cp2, rfl, hkF, he, hnb2, hjn⟩ := EoAt.elem (dn := .nil) hF
  rw [show Eo.len .nil = 0 from rfl] at he
  have e0 := he 0 (by omega)
  have e1 := he 1 (by omega)
  have e2 := he 2 (by omega)
  have e3 := he 3 (by omega)
  have e4 := he 4 (by omega)
  have e5 := he 5 (by omega)
  have e6 := he 6 (by omega)
  have e7 := he 7 (by omega)
  have e8 := he 8 (by omega)
  have e9 := he 9 (by omega)
  have e10 := he 10 (by omega)
  simp only [V11, List.getElem?_cons_zero, List.getElem?_cons_succ, Nat.add_zero, Nat.zero_mul] at e0 e1 e2 e3 e4 e5 e6 e7 e8 e9 e10
  subst hn
  have HC := Lib.hid (valueEV (N := N) hkF hf)
  unfold vE at HC
  have x10 := hW.cell 10 rfl
  clear hW hF he hkF hf hnb2 hjn
  go_enter Tryz.func149, Tryz.ntmps149
  go_wp2_with (go_at_call 50; (with_reducible refine HC.out.mono ?_); rintro e9 w9 ⟨v, rfl, hv, hb⟩; have HV := Lib.hid hv; have HB := Lib.hid hb; clear hv hb)
  go_ret
  exact ⟨v, rfl, HV.out, HB.out⟩
set_option maxRecDepth 100000 in
set_option maxHeartbeats 4000000 in
theorem unw187 {S N : Nat → Prop} {p : Nat} {w : World} {k i c : Int} {t : Bs} {b : Dt} {bl : Option Addr} {bn bc : Nat} {cl : Option Addr} {cn cc : Nat} {l : Option Addr} {n cap : Nat} {k2 i2 c2 : Int} {t2 : Bs} {b2 : Dt} {cs2 : List Int} {ks : Eo} (hW : Blk w p (V11 k i c t b bl bn bc cl cn cc l n cap)) (hF : EoAt S w (.cons k2 i2 c2 t2 b2 cs2 ks .nil) l n cap) (hf : ∀ x, N x → x < w.heap.size) :
    Calls Tryz.prog 187 #[.pointer (some ⟨p, 0, none⟩)] w (VAL S N ⟨k2, i2, c2, t2, b2, cs2, ks⟩ w) := by
  have hn : 1 = n := hF.len
  obtain ⟨bb, off, bl2, bn2, bc2, cl2, cn2, cc2, a2, n2, cp2, rfl, hkF, he, hnb2, hjn⟩ := EoAt.elem (dn := .nil) hF
  rw [show Eo.len .nil = 0 from rfl] at he
  have e0 := he 0 (by omega)
  have e1 := he 1 (by omega)
  have e2 := he 2 (by omega)
  have e3 := he 3 (by omega)
  have e4 := he 4 (by omega)
  have e5 := he 5 (by omega)
  have e6 := he 6 (by omega)
  have e7 := he 7 (by omega)
  have e8 := he 8 (by omega)
  have e9 := he 9 (by omega)
  have e10 := he 10 (by omega)
  simp only [V11, List.getElem?_cons_zero, List.getElem?_cons_succ, Nat.add_zero, Nat.zero_mul] at e0 e1 e2 e3 e4 e5 e6 e7 e8 e9 e10
  subst hn
  have HC := Lib.hid (valueEV (N := N) hkF hf)
  unfold vE at HC
  have x10 := hW.cell 10 rfl
  clear hW hF he hkF hf hnb2 hjn
  go_enter Tryz.func187, Tryz.ntmps187
  go_wp2_with (go_at_call 50; (with_reducible refine HC.out.mono ?_); rintro e9 w9 ⟨v, rfl, hv, hb⟩; have HV := Lib.hid hv; have HB := Lib.hid hb; clear hv hb)
  go_ret
  exact ⟨v, rfl, HV.out, HB.out⟩
set_option maxRecDepth 100000 in
theorem unw187n {p : Nat} {w : World} {k i c : Int} {t : Bs} {b : Dt} {bl : Option Addr} {bn bc : Nat} {cl : Option Addr} {cn cc : Nat} {l : Option Addr} {cap : Nat} (hW : Blk w p (V11 k i c t b bl bn bc cl cn cc l 0 cap)) :
    Calls Tryz.prog 187 #[.pointer (some ⟨p, 0, none⟩)] w (fun e w' => e = .returned .nilIface ∧ w' = w) := by
  have x10 := hW.cell 10 rfl
  clear hW
  go_enter Tryz.func187, Tryz.ntmps187
  go_wp2_with fail
  go_ret
  exact ⟨rfl, rfl⟩
end Go.Proofs.YtbldidiibkcelaaGreatDoor

/-
  The values of all that an error value wraps (walk). Not a statement of the seat.
-/
namespace Go.Proofs.YtbldidiibkcelaaGreatDoor
open Go.RowKit

theorem info68m : (Tryz.prog.info? 68).map (fun i => (i.zero, i.size, i.bytes)) = some (some .nilIface, 1, 16) := by kernel_rfl
theorem info68 : ∃ i, Tryz.prog.info? 68 = some i ∧ i.zero = some .nilIface ∧ i.size = 1 ∧ i.bytes = 16 := by
  have h := info68m
  cases hi : Tryz.prog.info? 68 with
  | none => rw [hi] at h; cases h
  | some i =>
    rw [hi] at h
    simp only [Option.map_some, Option.some.injEq, Prod.mk.injEq] at h
    exact ⟨i, rfl, h.1, h.2.1, h.2.2⟩
theorem vErr_one (k c : Int) (t : Bs) (cl : Option Addr) (cn cc q p : Nat) : (vErr k c t cl cn cc q p).oneCell' = true := by
  unfold vErr
  repeat' split
  all_goals rfl
theorem vErr_iface (k c : Int) (t : Bs) (cl : Option Addr) (cn cc q p : Nat) : vErr k c t cl cn cc q p = .nilIface ∨ ∃ u x, vErr k c t cl cn cc q p = .iface u x := by
  obtain ⟨x, hx⟩ : ∃ x, x = vErr k c t cl cn cc q p := ⟨_, rfl⟩
  rw [← hx]
  unfold vErr at hx
  repeat' split at hx
  all_goals
    subst hx
    first
      | exact .inl rfl
      | exact .inr ⟨_, _, rfl⟩
theorem EVAt.iface {S N : Nat → Prop} {w : World} {e : Et} {v : Value} (h : EVAt S N w e v) : v = .nilIface ∨ ∃ u x, v = .iface u x := by
  obtain ⟨bl, bn, bc, cl, cn, cc, l, n, cap, q, p, rfl, _⟩ := h
  exact vErr_iface _ _ _ _ _ _ _ _
theorem EVAt.one {S N : Nat → Prop} {w : World} {e : Et} {v : Value} (h : EVAt S N w e v) : v.oneCell' = true := by
  obtain ⟨bl, bn, bc, cl, cn, cc, l, n, cap, q, p, rfl, _⟩ := h
  exact vErr_one _ _ _ _ _ _ _ _
/-- the values of a row -/
def EVs (S N : Nat → Prop) (w : World) : Eo → List Value → Prop
  | .nil, vs => vs = []
  | .cons k i c t b cs kids rest, vs => ∃ v vs', vs = v :: vs' ∧ EVAt S N w ⟨k, i, c, t, b, cs, kids⟩ v ∧ EVs S N w rest vs'
theorem EVs.map {S N N' : Nat → Prop} {w w' : World} (hh : ∀ e v, EVAt S N w e v → EVAt S N' w' e v) : ∀ (f : Eo) {vs : List Value}, EVs S N w f vs → EVs S N' w' f vs
  | .nil, _, h => h
  | .cons _ _ _ _ _ _ _ rest, _, h => by
    obtain ⟨v, vs', rfl, h1, h2⟩ := h
    exact ⟨v, vs', rfl, hh _ _ h1, EVs.map hh rest h2⟩
theorem EVs.snoc {S N : Nat → Prop} {w : World} {k i c : Int} {t : Bs} {b : Dt} {cs : List Int} {kids : Eo} {v : Value} (hv : EVAt S N w ⟨k, i, c, t, b, cs, kids⟩ v) : ∀ (f : Eo) {vs : List Value}, EVs S N w f vs → EVs S N w (f.app (.cons k i c t b cs kids .nil)) (vs ++ [v])
  | .nil, _, h => by cases h; exact ⟨v, [], rfl, hv, rfl⟩
  | .cons _ _ _ _ _ _ _ rest, _, h => by
    obtain ⟨u, vs', rfl, h1, h2⟩ := h
    exact ⟨u, vs' ++ [v], rfl, h1, EVs.snoc hv rest h2⟩
theorem EVs.len {S N : Nat → Prop} {w : World} : ∀ (f : Eo) {vs : List Value}, EVs S N w f vs → vs.length = f.len
  | .nil, _, h => by cases h; rfl
  | .cons _ _ _ _ _ _ _ rest, _, h => by
    obtain ⟨u, vs', rfl, _, h2⟩ := h
    simp only [List.length_cons, Eo.len, EVs.len rest h2]
def MyRel (S N : Nat → Prop) (kids : Eo) (w : World) (t12 t3 : Value) (wr : World) : Prop :=
  ∃ (dn rest : Eo) (a : Option Addr) (c : Nat) (vs : List Value), t12 = .int .i64 (dn.len : Nat) ∧ t3 = .slice a dn.len c ∧ kids = dn.app rest ∧ Row w.heap.size wr 1 a dn.len c vs ∧ EVs S (fun x => N x ∨ blockOf a = some x) wr dn vs ∧ Below w.heap.size w wr
theorem many_step {S N : Nat → Prop} {w wr w9 w4 : World} {a a4 : Option Addr} {j c4 : Nat} {vs : List Value} {v : Value} {dn : Eo} {k i c : Int} {t : Bs} {b : Dt} {cs : List Int} {kids : Eo} (hv : EVAt S (fun x => N x ∨ blockOf a = some x) w9 ⟨k, i, c, t, b, cs, kids⟩ v)
    (hR4 : Row w.heap.size w4 1 a4 (j + 1) c4 (vs ++ [v])) (hG4 : (w9.alloc (.cells #[v] 68)).grownBy w4 (blockOf a)) (hB4 : blockOf a4 = blockOf a ∨ blockOf a4 = some (w9.alloc (.cells #[v] 68)).heap.size)
    (hS : ∀ x, S x → x < w.heap.size ∧ ¬ N x) (hRL : ∀ x, blockOf a = some x → w.heap.size ≤ x) (hBw : Below w.heap.size w wr) (hB9 : Below wr.heap.size wr w9) (hEV : EVs S (fun x => N x ∨ blockOf a = some x) wr dn vs) :
    EVs S (fun x => N x ∨ blockOf a4 = some x) w4 (dn.app (.cons k i c t b cs kids .nil)) (vs ++ [v]) ∧ Below w.heap.size w w4 := by
  have hdS : ∀ x, S x → ¬ ((N x ∨ blockOf a = some x) ∨ blockOf a4 = some x) := by
    rintro x hx ((h | h) | h)
    · exact (hS x hx).2 h
    · have := hRL x h; have := (hS x hx).1; omega
    · have := (hR4.lt x h).1; have := (hS x hx).1; omega
  have hst : ∀ e u, EVAt S (fun x => N x ∨ blockOf a = some x) w9 e u → EVAt S (fun x => N x ∨ blockOf a4 = some x) w4 e u := by
    intro e u hu
    have h1 := hu.below (w' := w9.alloc (.cells #[v] 68)) ((Below.refl _ _).alloc (Nat.le_refl _) _) (fun x hx hn => hdS x hx (.inl hn))
    have h2 : EVAt S (fun x => (N x ∨ blockOf a = some x) ∨ blockOf a4 = some x) (w9.alloc (.cells #[v] 68)) e u := h1.mono (fun x hx h => by
      rcases h with h | h
      · exact h
      · rcases hB4 with h4 | h4
        · exact .inr (h4.symm.trans h)
        · rw [h4] at h; cases h; omega)
    have h3 := h2.keep (N' := fun x => blockOf a = some x) ((Kept.refl _ _).grown hG4 (fun x hx _ => hx)) (fun x _ h => .inl (.inr h)) hdS
    exact h3.mono (fun x _ h => by
      rcases h with h | h
      · exact .inl (.inl h)
      · exact .inr h)
  refine ⟨EVs.snoc (hst _ _ hv) dn (EVs.map (fun e u hu => hst e u (hu.below hB9 (fun x hx hn => hdS x hx (.inl hn)))) dn hEV), ?_⟩
  have hA : Below w9.heap.size w9 (w9.alloc (.cells #[v] 68)) := (Below.refl _ _).alloc (Nat.le_refl _) _
  have h0 : Below w.heap.size w (w9.alloc (.cells #[v] 68)) := (hBw.trans (hB9.mono hBw.size)).trans (hA.mono (Nat.le_trans hBw.size hB9.size))
  exact h0.trans (((Kept.refl (fun x => blockOf a = some x) (w9.alloc (.cells #[v] 68))).grown hG4 (fun x hx _ => hx)).below h0.size (fun x hx h => by have := hRL x h; omega))
/-- what Unwrap of many comes to -/
def MYP (S N : Nat → Prop) (kids : Eo) (w : World) (e : Ending) (w' : World) : Prop :=
  ∃ (a : Option Addr) (c : Nat) (vs : List Value), e = .returned (.slice a kids.len c) ∧ Row w.heap.size w' 1 a kids.len c vs ∧ EVs S N w' kids vs ∧ Below w.heap.size w w'
set_option maxRecDepth 100000 in
set_option maxHeartbeats 8000000 in
theorem unw153 {S N : Nat → Prop} {p : Nat} {w : World} {k i c : Int} {t : Bs} {b : Dt} {bl : Option Addr} {bn bc : Nat} {cl : Option Addr} {cn cc : Nat} {l : Option Addr} {n cap : Nat} {kids : Eo} (hW : Blk w p (V11 k i c t b bl bn bc cl cn cc l n cap)) (hF : EoAt S w kids l n cap)
    (hS : ∀ x, S x → x < w.heap.size ∧ ¬ N x) (hN : ∀ x, N x → x < w.heap.size) (hn : n ≤ 4096) : Calls Tryz.prog 153 #[.pointer (some ⟨p, 0, none⟩)] w (MYP S N kids w) := by
  obtain ⟨i0, hi, hy0, hy1, hy2⟩ := info68
  have x10 := hW.cell 10 rfl
  have hnl := hF.len
  have HF := Lib.hid hF
  have HSN := Lib.hid (And.intro hS hN)
  have HNL := Lib.hid hnl
  clear hW hF hS hN hnl
  go_enter Tryz.func153, Tryz.ntmps153
  go_wp2_with fail
  go_loopw [12, 3] (fun t12 t3 wr => MyRel S N kids w t12 t3 wr) (fun t12 _ _ => n - (intOf t12).toNat)
  case atStart => exact ⟨.nil, kids, none, 0, [], rfl, rfl, rfl, Row.nil _ _ _, rfl, Below.refl _ _⟩
  case round =>
    obtain ⟨dn, rest, a, c0, vs, rfl, rfl, hk, hRow, hEV, hBw⟩ := hrel
    have HBw := Lib.hid hBw
    have hFr := HF.out.same (w' := wr) (fun x hx hlt => hBw.block x hlt) (fun x hx _ => hx)
    have hlen := HNL.out
    rw [hk, Eo.len_app] at hlen
    cases rest with
    | nil =>
      have hj : ¬ (dn.len : Int) < (n : Int) := by have : Eo.len .nil = 0 := rfl; omega
      rw [Eo.app_nil] at hk
      have HR := Lib.hid (show MYP S N kids w (.returned (.slice a dn.len c0)) wr from ⟨a, c0, vs, by rw [hk], by rw [hk]; exact hRow, by rw [hk]; exact EVs.map (fun e v h => h.mono (fun x _ hx => .inl hx)) _ hEV, hBw⟩)
      clear hk hlen hFr hRow hEV hBw
      go_wp2_with fail
      go_ret
      exact HR.out
    | cons k2 i2 c2 t2 b2 cs2 ks r2 =>
      have hlr : (Eo.cons k2 i2 c2 t2 b2 cs2 ks r2).len = r2.len + 1 := rfl
      rw [hk] at hFr
      obtain ⟨bb, off, bl2, bn2, bc2, cl2, cn2, cc2, a2, n2, cp2, rfl, hkF, he, hnb2, hjn⟩ := hFr.elem
      have e0 := he 0 (by omega)
      have e1 := he 1 (by omega)
      have e2 := he 2 (by omega)
      have e3 := he 3 (by omega)
      have e4 := he 4 (by omega)
      have e5 := he 5 (by omega)
      have e6 := he 6 (by omega)
      have e7 := he 7 (by omega)
      have e8 := he 8 (by omega)
      have e9 := he 9 (by omega)
      have e10 := he 10 (by omega)
      simp only [V11, List.getElem?_cons_zero, List.getElem?_cons_succ, Nat.add_zero] at e0 e1 e2 e3 e4 e5 e6 e7 e8 e9 e10
      have hj : (dn.len : Int) < (n : Int) := by omega
      have hab : Below wr.heap.size wr (wr.alloc (.cells #[.int .i64 k2, .int .i64 i2, .int .i64 c2, .string ⟨t2.toArray⟩, .int .i64 b2.k, .int .i64 b2.i, .int .u64 b2.b, .string ⟨b2.t.toArray⟩, .slice bl2 bn2 bc2, .slice cl2 cn2 cc2, .slice a2 n2 cp2] 29)) := (Below.refl _ _).alloc (Nat.le_refl _) _
      have hrlt : ∀ x, blockOf a = some x → w.heap.size ≤ x ∧ x < wr.heap.size := hRow.lt
      have HC := Lib.hid (valueEV (N := fun x => N x ∨ blockOf a = some x) (hkF.same (w' := wr.alloc (.cells #[.int .i64 k2, .int .i64 i2, .int .i64 c2, .string ⟨t2.toArray⟩, .int .i64 b2.k, .int .i64 b2.i, .int .u64 b2.b, .string ⟨b2.t.toArray⟩, .slice bl2 bn2 bc2, .slice cl2 cn2 cc2, .slice a2 n2 cp2] 29)) (fun x _ hlt => hab.block x hlt) (fun x hx _ => hx)) (fun x hx => by
        rcases hx with hx | hx
        · have := HSN.out.2 x hx; have := hBw.size; have := hab.size; omega
        · have := (hrlt x hx).2; have := hab.size; omega))
      unfold vE at HC
      have HAB := Lib.hid hab
      have HRV := Lib.hid (And.intro hRow hEV)
      have HRL := Lib.hid hrlt
      have HKK := Lib.hid hk
      have HJ := Lib.hid hjn
      clear hkF hk hlen hFr hRow hEV hBw hlr he hab hrlt hnb2
      generalize hjj : dn.len = j at *
      have HJJ := Lib.hid hjj
      clear hjj
      go_wp2_with (first
        | (go_at_call 50; (with_reducible refine HC.out.mono ?_); rintro e9 w9 ⟨v, rfl, hv, hb⟩
           rcases hv.iface with rfl | ⟨u9, v9, rfl⟩ <;> (
             have HV := Lib.hid hv
             have HB9 := Lib.hid (HAB.out.trans (hb.mono HAB.out.size))
             have hone := hv.one
             have HR9 := fun o => Lib.hid ((HRV.out.1.below HB9.out).alloc o)
             have HS9 := Lib.hid (Src.oneAt (P := Tryz.prog) (w := w9) (tx := 130) Tryz.underlying130 _ 68 hone (g := w9.heap.size) rfl)
             have hle9 : w.heap.size ≤ w9.heap.size := Nat.le_trans HBw.out.size HB9.out.size
             clear hv hb hone))
        | (at_builtin; refine wpList_append_row rfl _ _ 130 130 rfl 68 i0 .nilIface 1 16 Tryz.underlying130 hi hy0 hy1 hy2 rfl rfl (HR9 _).out 1 _ HS9.out (by unfold maxLen; have := HJ.out; omega) (by have := HJ.out; omega) (by simp; omega) ?_; intro a4 c4 w4 hrow hgr hbk4; have HR4 := Lib.hid hrow; have HG4 := Lib.hid hgr; have HB4 := Lib.hid hbk4; clear hrow hgr hbk4))
      all_goals
        go_roundw
        case rel =>
          have hl2 : (dn.app (.cons k2 i2 c2 t2 b2 cs2 ks .nil)).len = j + 1 := by rw [Eo.len_app, HJJ.out, show (Eo.cons k2 i2 c2 t2 b2 cs2 ks .nil).len = 1 from rfl]
          have hms := many_step HV.out HR4.out HG4.out HB4.out HSN.out.1 (fun x hx => (HRL.out x hx).1) HBw.out HB9.out HRV.out.2
          refine ⟨dn.app (.cons k2 i2 c2 t2 b2 cs2 ks .nil), r2, a4, c4, _, ?_, ?_, ?_, ?_, hms.1, hms.2⟩
          · rw [hl2]; go_num
          · rw [hl2]
          · rw [Eo.app_assoc]; exact HKK.out
          · rw [hl2]; exact HR4.out
        case measure => simp [intOf]; have := HJ.out; omega
end Go.Proofs.YtbldidiibkcelaaGreatDoor

/-
  The walk through an error value and all in it (walks). Not a statement of the seat.
-/
namespace Go.Proofs.YtbldidiibkcelaaGreatDoor
open Go.RowKit

theorem run_append_full {P : Program} {w : World} (t tx ty e : TypeId) (i : TypeInfo) (z : Value) (size bytes : Nat) (ht : P.underlying t = some (.slice e)) (hi : P.info? e = some i) (hz : i.zero = some z) (hsize : i.size = size) (hby : i.bytes = bytes) (hzs : z.cells.size = size)
    {B : Nat} {a : Option Addr} {n cap : Nat} {xs : List Value} (h : Row B w size a n cap xs) (x : Value) (m : Nat) (news : List Value) (hs : Src P size tx x m news w)
    (h63 : n + m ≤ maxLen) (hbytes : (n + m) * bytes ≤ 140737488355328) (hB : B ≤ w.heap.size) (hroom : ¬ n + m ≤ cap) :
    ∃ a' cap' w', (Builtin.append_ #[t, tx] ty #[.slice a n cap, x]).run P w = .ok (.slice a' (n + m) cap') w' ∧ Row B w' size a' (n + m) cap' (xs ++ news) ∧ Below w.heap.size w w' ∧ blockOf a' = some w.heap.size := by

  obtain ⟨h1, h2, h3, h4⟩ := h
  subst hsize
  subst hby
  have hlen : (xs ++ news).length = (n + m) * i.size := by rw [List.length_append, h1, hs.newsLen, Nat.add_mul]
  have hold : (Builtin.firstCells i.size n (.slice a n cap)).run P w.drew = .ok xs.toArray w.drew := by
    rcases h4 with ⟨rfl, rfl⟩ | ⟨b, off, rfl, hBb, hlt, hc, hsp⟩
    · obtain rfl : n = 0 := by omega
      have hx : xs = [] := List.eq_nil_of_length_eq_zero (by rw [h1]; simp)
      subst hx
      exact run_firstCells_none w.drew i.size 0 0 0
    · refine run_firstCells_some w.drew i.size n _ n cap xs h1 (fun j u hj => ?_)
      rw [Addr.add_lit]
      have hjl := (List.getElem?_eq_some_iff.1 hj).1
      show w.cell? _ = _
      rw [hc j hjl, hj]
  have hr := run_append_grow_src (P := P) w t tx ty e i z ht hi hz a n cap xs hold x m news hs (by omega) (by simp only [maxLen] at h63; omega) (growslice_fits (by omega) hbytes)
  have hge := grownCap_ge w (n + m) cap e
  have hcm : grownCap w (n + m) cap e ≤ maxLen := grownCap_le_maxLen w (n + m) cap e h63
  have hown : (w.drew.alloc (.cells ((xs ++ news).toArray ++ Builtin.zeroCells z.cells (grownCap w (n + m) cap e - (n + m))) e)).ownsRow B e i.size (.slice (some ⟨w.heap.size, 0, none⟩) (n + m) (grownCap w (n + m) cap e)) (n + m) (xs ++ news) := by
    refine ⟨hlen, .inr ⟨w.heap.size, _, _, rfl, hB, heap_alloc_new w.drew _, hge, hcm, ?_, ?_⟩⟩
    · simp only [Array.size_append, List.size_toArray, size_zeroCells, hzs, hlen, ← Nat.add_mul]
      congr 1
      omega
    · simp only [Array.toList_append]
      rw [← hlen]
      exact List.take_left
  obtain ⟨a', cap', he, hrow⟩ := Row.of_owns hown
  cases he
  exact ⟨_, _, _, hr, hrow, (Below.refl _ _).drew.alloc (Nat.le_refl _) _, rfl⟩
theorem step_append_full {P : Program} {Q : Exit → Act → World → Prop} {w : World} {ops : Array Oper} {o : Oper} {a : Act} {K : Act → World → Prop} {E : Prop} (hgd : o.guard = none) (s x : Operand) (t tx : TypeId)
    (hop : o.op = Op.call { callee := Callee.builtin Builtin.append, args := #[s, x], argTypes := #[t, tx] })
    (e : TypeId) (i : TypeInfo) (z : Value) (size bytes : Nat) (ht : P.underlying t = some (.slice e)) (hi : P.info? e = some i) (hz : i.zero = some z) (hsize : i.size = size) (hby : i.bytes = bytes) (hzs : z.cells.size = size)
    {B : Nat} {av : Option Addr} {n cap : Nat} {xs : List Value} (hs : a.eval s = .slice av n cap) (h : Row B w size av n cap xs) (m : Nat) (news : List Value) (hsrc : Src P size tx (a.eval x) m news w)
    (h63 : n + m ≤ maxLen) (hbytes : (n + m) * bytes ≤ 140737488355328) (hB : B ≤ w.heap.size) (hroom : ¬ n + m ≤ cap)
    (hk : ∀ a' cap' w', Row B w' size a' (n + m) cap' (xs ++ news) → Below w.heap.size w w' → blockOf a' = some w.heap.size → K (a.put o.dst (.slice a' (n + m) cap')) w') :
    if Region.wanted o (yielded ops a.tmps) = true then Oper.wp P o a w K Q else E := by
  have hw : Region.wanted o (yielded ops a.tmps) = true := by simp [Region.wanted, hgd]
  rw [if_pos hw]
  obtain ⟨a', cap', w', hr, h1, h2, h3⟩ := run_append_full (P := P) (w := w) t tx o.type e i z size bytes ht hi hz hsize hby hzs h (a.eval x) m news hsrc h63 hbytes hB hroom
  unfold Oper.wp
  simp [execOp, hop, resolve, invoke, builtin, hs, hr, Result.andThen]
  exact hk a' cap' w' h1 h2 h3
set_option maxRecDepth 100000 in
theorem clip84g {a : Option Addr} {n c : Nat} (w : World) (h1 : n ≤ c) (h2 : c ≤ 9223372036854775807) (h3 : a = none → c = 0) : Calls Tryz.prog 84 #[.slice a n c] w (fun e w' => e = .returned (.slice a n n) ∧ w' = w) := by
  cases a with
  | none =>
    have hc := h3 rfl
    subst hc
    obtain rfl : n = 0 := by omega
    exact clip84 w
  | some ad =>
    clear h3
    go_enter Tryz.func84, Tryz.ntmps84
    go_wp2_with fail
    go_ret
    exact ⟨rfl, rfl⟩
end Go.Proofs.YtbldidiibkcelaaGreatDoor

/-
  The step to what is wrapped (walk). Not a statement of the seat.
-/
namespace Go.Proofs.YtbldidiibkcelaaGreatDoor
open Go.RowKit

theorem ISP.ahead {a0 : Addr} {h : Bool × Int} {fb : Nat} {w w1 : World} {e : Ending} {w' : World} (hB : Below w.heap.size w w1) (hI : ISP a0 h fb w1 e w') : ISP a0 h fb w e w' := ⟨(Kept.of' (N := N1 fb) hB).tail hI.1 (fun _ _ h => h), hI.2⟩
theorem ISP.t {a0 : Addr} {fb : Nat} {w w' : World} {e : Ending} (h : ISP a0 (true, 0) fb w e w') : e = .returned (.bool false) ∧ Kept (N1 fb) w w' ∧ Blk w' fb [.bool true] := by
  rcases h with ⟨h1, ⟨_, h2, h3⟩ | ⟨h2, _⟩ | ⟨h2, _⟩⟩
  · exact ⟨h2, h1, h3⟩
  · cases h2
  · cases h2
theorem ISP.f {a0 : Addr} {fb : Nat} {w w' : World} {e : Ending} (h : ISP a0 (false, 0) fb w e w') : e = .returned (.bool true) ∧ Kept (N1 fb) w w' ∧ Blk w' fb [.bool false] := by
  rcases h with ⟨h1, ⟨h2, _⟩ | ⟨_, h2, h3⟩ | ⟨h2, _⟩⟩
  · cases h2
  · exact ⟨h2, h1, h3⟩
  · cases h2
theorem ISP.p {a0 : Addr} {fb : Nat} {w w' : World} {e : Ending} (h : ISP a0 (false, 10) fb w e w') : e = .panicked [{ v := .iface 228 (.pointer (some a0)), recovered := false }] ∧ Kept (N1 fb) w w' := by
  rcases h with ⟨h1, ⟨h2, _⟩ | ⟨h2, _⟩ | ⟨_, h2⟩⟩
  · cases h2
  · cases h2
  · exact ⟨h2, h1⟩
section
variable {P : Program} {md : Region.Mode} {l : List Oper} {Q : Exit → Act → World → Prop} {S : World → Prop}
end

end Go.Proofs.YtbldidiibkcelaaGreatDoor

