/-
  AsFace's visitor (walk). Not a statement of the seat.
-/
import Derived.Test.YtbldidiibkcelaaGreatDoorTEVw64
namespace Go.Proofs.YtbldidiibkcelaaGreatDoor
open Go.RowKit

theorem EVAt.if' {S N : Nat → Prop} {w : World} {e : Et} {v : Value} (h : EVAt S N w e v) (h1 : 1 ≤ e.k) (h2 : e.k ≤ 10) : ∃ u x, v = .iface u x := by
  obtain ⟨bl, bn, bc, cl, cn, cc, l, n, cap, q, p, rfl, _⟩ := h
  exact vErr_if h1 h2
end Go.Proofs.YtbldidiibkcelaaGreatDoor

/-
  AsFace (walk), what it finds (plain). Not a statement of the seat.
-/
namespace Go.Proofs.YtbldidiibkcelaaGreatDoor
open Go.RowKit

/-- the first of a row that has an interface -/
def fndL (m : Int) : Eo → Option Et
  | .nil => none
  | .cons k i c t b cs ks rest => match (if k = 0 then none else if hasK k m then some ⟨k, i, c, t, b, cs, ks⟩ else fndL m ks : Option Et) with
    | some x => some x
    | none => fndL m rest
def fnd1 (m : Int) (e : Et) : Option Et := if e.k = 0 then none else if hasK e.k m then some e else fndL m e.l
theorem fndL_cons (m k i c : Int) (t : Bs) (b : Dt) (cs : List Int) (ks rest : Eo) : fndL m (.cons k i c t b cs ks rest) = match fnd1 m ⟨k, i, c, t, b, cs, ks⟩ with | some x => some x | none => fndL m rest := by
  rw [fndL]
  rfl
/-- a copy and whether there is one -/
def CLT (f : Bool) (k i c : Int) (t : Bs) (b : Dt) (cs : List Int) (kids : Eo) (w : World) (r : Ending) (w' : World) : Prop := ∃ v, CLE k i c t b cs kids w (.returned v) w' ∧ r = .returned (.tuple #[v, .bool f])
theorem ct_fin {fn : Func} {f : Bool} {w w2 wr : World} {kids : Eo} {k i c : Int} {t : Bs} {b : Dt} {cs : List Int} {bl : Option Addr} {bn bc : Nat} {cl : Option Addr} {cn cc : Nat} {l : Option Addr} {n cap z : Nat} {vs : List Value} {tmps : Array Value} (hr : fn.results = #[ResultVar.cell 4 29, ResultVar.tmp 5]) (ht : tmps.getD 4 undef = .pointer (some ⟨z, 0, none⟩)) (ht5 : tmps.getD 5 undef = .bool f)
    (hz : w.heap.size ≤ z ∧ z < w2.heap.size) (hBW : Below w.heap.size w w2) (hZ : Blk wr z Z11) (hF : FoAt (fun x => w2.heap.size ≤ x) wr b.l bl bn bc) (hC : Row w2.heap.size wr 1 cl cn cc (I8 cs)) (hR : Row w2.heap.size wr 11 l n cap vs ∧ EAt (fun x => w2.heap.size ≤ x ∧ blockOf l ≠ some x) wr kids vs) (hB2 : Below w2.heap.size w2 wr) :
    bodyPost Tryz.prog fn (CLT f k i c t b cs kids w) Exit.ret { tmps := tmps, defers := [] } (st11 wr z (.int .i64 k) (.int .i64 i) (.int .i64 c) (.string ⟨t.toArray⟩) (.int .i64 b.k) (.int .i64 b.i) (.int .u64 b.b) (.string ⟨b.t.toArray⟩) (.slice bl bn bc) (.slice cl cn cc) (.slice l n cap)) := by
  have h1 := st11_kept (w := wr) (b := z) (.int .i64 k) (.int .i64 i) (.int .i64 c) (.string ⟨t.toArray⟩) (.int .i64 b.k) (.int .i64 b.i) (.int .u64 b.b) (.string ⟨b.t.toArray⟩) (.slice bl bn bc) (.slice cl cn cc) (.slice l n cap)
  have h' := st11_blk hZ (.int .i64 k) (.int .i64 i) (.int .i64 c) (.string ⟨t.toArray⟩) (.int .i64 b.k) (.int .i64 b.i) (.int .u64 b.b) (.string ⟨b.t.toArray⟩) (.slice bl bn bc) (.slice cl cn cc) (.slice l n cap)
  generalize st11 wr z (.int .i64 k) (.int .i64 i) (.int .i64 c) (.string ⟨t.toArray⟩) (.int .i64 b.k) (.int .i64 b.i) (.int .u64 b.b) (.string ⟨b.t.toArray⟩) (.slice bl bn bc) (.slice cl cn cc) (.slice l n cap) = wz at *
  have ht' : tmps[4]?.getD undef = .pointer (some ⟨z, 0, none⟩) := by simpa using ht
  have ht5' : tmps[5]?.getD undef = .bool f := by simpa using ht5
  have c0 := h'.cell 0 rfl; have c1 := h'.cell 1 rfl; have c2 := h'.cell 2 rfl; have c3 := h'.cell 3 rfl; have c4 := h'.cell 4 rfl; have c5 := h'.cell 5 rfl; have c6 := h'.cell 6 rfl; have c7 := h'.cell 7 rfl; have c8 := h'.cell 8 rfl; have c9 := h'.cell 9 rfl; have c10 := h'.cell 10 rfl
  refine bodyPost_ret (v := .tuple #[vE k i c t b bl bn bc cl cn cc l n cap, .bool f]) ?_ rfl ?_
  · unfold vE
    simp [results, hr, go_sem, ht', ht5', c0, c1, c2, c3, c4, c5, c6, c7, c8, c9, c10]
  have hs := hBW.size
  have hs2 := hB2.size
  refine ⟨_, ⟨bl, bn, bc, cl, cn, cc, l, n, cap, vs, rfl, hF.same (fun x hx hl => h1.block x hl (fun e => ?_)) (fun x hx _ => ?_), (hC.keep h1 (fun x hx e => ?_)).mono (by omega), ⟨(hR.1.keep h1 (fun x hx e => ?_)).mono (by omega), EAt.same _ hR.2 (fun x hx hlt => h1.block x hlt (fun e => ?_)) (fun x hx _ => ⟨?_, hx.2⟩)⟩,
    hBW.trans ((hB2.mono (by omega)).trans (h1.below (by omega) (fun x hx e => by unfold N1 at e; omega)))⟩, rfl⟩
  · have h9 : w2.heap.size ≤ x := hx
    unfold N1 at e; omega
  · have h9 : w2.heap.size ≤ x := hx
    omega
  · have := (hC.lt x hx).1; unfold N1 at e; omega
  · have := (hR.1.lt x hx).1; unfold N1 at e; omega
  · have := hx.1; unfold N1 at e; omega
  · have := hx.1; omega
end Go.Proofs.YtbldidiibkcelaaGreatDoor

/-
  The document's AsFace (walk). Not a statement of the seat.
-/
namespace Go.Proofs.YtbldidiibkcelaaGreatDoor
open Go.RowKit

theorem fndL_app (m : Int) : ∀ (f g : Eo), fndL m (f.app g) = match fndL m f with | some x => some x | none => fndL m g
  | .nil, _ => rfl
  | .cons k i c t b cs ks rest, g => by
    rw [Eo.app, fndL_cons, fndL_cons, fndL_app m rest g]
    cases fnd1 m ⟨k, i, c, t, b, cs, ks⟩ with
    | some x => rfl
    | none => rfl
theorem has0 (m : Int) : hasK 0 m = false := by
  unfold hasK
  (repeat' split) <;> rfl
theorem fnd1_pos {m : Int} {e : Et} (hr : rightE e = true) : fnd1 m e = if hasK e.k m then some e else fndL m e.l := by
  unfold fnd1
  by_cases hk : e.k = 0
  · rw [if_pos hk, hk, has0]
    have h := right_zero hr hk
    rw [h]
    rfl
  · rw [if_neg hk]
def RAFOK (m : Int) (kids : Eo) : Prop := ∀ (k i c : Int) (t : Bs) (b : Dt) (cs : List Int) (bl : Option Addr) (bn bc : Nat) (cl : Option Addr) (cn cc : Nat) (l : Option Addr) (n cap : Nat) (S : Nat → Prop) (w : World), ErAt S w ⟨k, i, c, t, b, cs, kids⟩ bl bn bc cl cn cc l n cap → (∀ x, S x → x < w.heap.size) → rightE ⟨k, i, c, t, b, cs, kids⟩ = true → okS ⟨k, i, c, t, b, cs, kids⟩ →
  Calls Tryz.prog 36 #[vE k i c t b bl bn bc cl cn cc l n cap, .int .i64 m] w (CLT (fnd1 m ⟨k, i, c, t, b, cs, kids⟩).isSome ((fnd1 m ⟨k, i, c, t, b, cs, kids⟩).getD Et.zero).k ((fnd1 m ⟨k, i, c, t, b, cs, kids⟩).getD Et.zero).i ((fnd1 m ⟨k, i, c, t, b, cs, kids⟩).getD Et.zero).c ((fnd1 m ⟨k, i, c, t, b, cs, kids⟩).getD Et.zero).t ((fnd1 m ⟨k, i, c, t, b, cs, kids⟩).getD Et.zero).b ((fnd1 m ⟨k, i, c, t, b, cs, kids⟩).getD Et.zero).cs ((fnd1 m ⟨k, i, c, t, b, cs, kids⟩).getD Et.zero).l w)
def RaRel (m : Int) (kids : Eo) (w1 : World) (t18 : Value) (wr : World) : Prop := ∃ dn rest : Eo, t18 = .int .i64 (dn.len : Nat) ∧ kids = dn.app rest ∧ fndL m dn = none ∧ Below w1.heap.size w1 wr
theorem CLT.ahead {f : Bool} {k i c : Int} {t : Bs} {b : Dt} {cs : List Int} {kids : Eo} {w : World} {r : Ending} {w' : World} (h : CLT f k i c t b cs kids w r w') : ∃ bl bn bc cl cn cc l n cap vs, r = .returned (.tuple #[vE k i c t b bl bn bc cl cn cc l n cap, .bool f]) ∧ FoAt (fun x => w.heap.size ≤ x) w' b.l bl bn bc ∧ Row w.heap.size w' 1 cl cn cc (I8 cs) ∧ (Row w.heap.size w' 11 l n cap vs ∧ EAt (fun x => w.heap.size ≤ x ∧ blockOf l ≠ some x) w' kids vs) ∧ Below w.heap.size w w' := by
  obtain ⟨v, ⟨bl, bn, bc, cl, cn, cc, l, n, cap, vs, hv, h1⟩, rfl⟩ := h
  cases hv
  exact ⟨bl, bn, bc, cl, cn, cc, l, n, cap, vs, rfl, h1⟩
set_option maxRecDepth 100000 in
set_option maxHeartbeats 16000000 in
theorem rasfaceN {m : Int} {kids : Eo} (hall : kids.All (RAFOK m)) : RAFOK m kids := by
  intro k i c t b cs bl bn bc cl cn cc l n cap S w hE hS hr hok
  obtain ⟨⟨hP, hZ⟩, hB, hsz⟩ := clw2_facts w k i c t b bl bn bc cl cn cc l n cap
  have HF := Lib.hid hE.2.2
  have HLEN := Lib.hid (show kids.len = n from hE.2.2.len)
  have hnb : n ≤ 100000 := by have h1 : kids.len = n := hE.2.2.len; have := hok.2.2.1; dsimp only at this; omega
  have HEX := Lib.hid (fun (wx : World) (hx : Below w.heap.size w wx) => ecopyG kids k i c t b cs bl bn bc cl cn cc l n cap S wx (hE.same (w' := wx) (fun x _ hl => hx.block x hl) (fun x hx2 _ => hx2)) (fun x hx2 => Nat.lt_of_lt_of_le (hS x hx2) hx.size) hok.1 hok.2.1 hok.2.2.1 hok.2.2.2)
  have HH := Lib.hid (fun (wx : World) => rhasN k m wx)
  have HS := Lib.hid hS
  have HALL := Lib.hid (And.intro hall (And.intro hr hok))
  have HFD := Lib.hid (fnd1_pos (m := m) hr)
  dsimp only at HFD
  generalize fnd1 m ⟨k, i, c, t, b, cs, kids⟩ = fd at *
  unfold vE at HEX ⊢
  clear hE hS hall hr hok
  go_enter Tryz.func36, Tryz.ntmps36
  go_upto_region 1 with (fail)
  change Code.wp _ _ _ _ (clw2 w k i c t b bl bn bc cl cn cc l n cap)
  generalize clw2 w k i c t b bl bn bc cl cn cc l n cap = w1 at *
  obtain ⟨z, hz⟩ : ∃ z, z = w.heap.size + 1 := ⟨_, rfl⟩
  obtain ⟨p, hp⟩ : ∃ q, q = w.heap.size := ⟨_, rfl⟩
  rw [← hp] at hP
  rw [← hz] at hZ
  rw [← hz, ← hp]
  have HB := Lib.hid hB
  have HZ := Lib.hid hZ
  have HP := Lib.hid hP
  have HLT := Lib.hid (show w.heap.size ≤ z ∧ z < w1.heap.size ∧ w.heap.size ≤ w1.heap.size from by omega)
  have x0 := hP.cell 0 rfl
  have x1 := hP.cell 1 rfl
  have x2 := hP.cell 2 rfl
  have x3 := hP.cell 3 rfl
  have x4 := hP.cell 4 rfl
  have x5 := hP.cell 5 rfl
  have x6 := hP.cell 6 rfl
  have x7 := hP.cell 7 rfl
  have x8 := hP.cell 8 rfl
  have x9 := hP.cell 9 rfl
  have x10 := hP.cell 10 rfl
  clear hP hZ hB hsz hp hz
  generalize hasK k m = h at *
  cases h
  rotate_left
  · go_wp2_with (first
      | (go_at_call 20; (with_reducible refine (HH.out _).mono ?_); rintro r2 w2 ⟨rfl, rfl⟩)
      | (go_at_call 25; (with_reducible refine (HEX.out _ HB.out).mono ?_); intro r4 w4 h4; obtain ⟨bl3, bn3, bc3, cl3, cn3, cc3, l3, n3, cap3, vs3, rfl, hF3, hR3, hT3, hB4⟩ := h4
         have HZ9 := Lib.hid (HZ.out.below hB4)
         have HR := Lib.hid (And.intro hF3 (And.intro hR3 (And.intro hT3 hB4)))
         have c0 := HZ9.out.cell 0 rfl; have f0 := HZ9.out.free 0 (by simp [Z11]); have c1 := HZ9.out.cell 1 rfl; have f1 := HZ9.out.free 1 (by simp [Z11]); have c2 := HZ9.out.cell 2 rfl; have f2 := HZ9.out.free 2 (by simp [Z11]); have c3 := HZ9.out.cell 3 rfl; have f3 := HZ9.out.free 3 (by simp [Z11]); have c4 := HZ9.out.cell 4 rfl; have f4 := HZ9.out.free 4 (by simp [Z11]); have c5 := HZ9.out.cell 5 rfl; have f5 := HZ9.out.free 5 (by simp [Z11]); have c6 := HZ9.out.cell 6 rfl; have f6 := HZ9.out.free 6 (by simp [Z11]); have c7 := HZ9.out.cell 7 rfl; have f7 := HZ9.out.free 7 (by simp [Z11]); have c8 := HZ9.out.cell 8 rfl; have f8 := HZ9.out.free 8 (by simp [Z11]); have c9 := HZ9.out.cell 9 rfl; have f9 := HZ9.out.free 9 (by simp [Z11]); have c10 := HZ9.out.cell 10 rfl; have f10 := HZ9.out.free 10 (by simp [Z11])
         unfold vE
         clear hF3 hR3 hT3 hB4))
    rw [HFD.out]
    exact ct_fin Tryz.results36 rfl rfl ⟨HLT.out.1, HLT.out.2.1⟩ HB.out HZ9.out HR.out.1 HR.out.2.1 HR.out.2.2.1 HR.out.2.2.2
  have HFL := Lib.hid (show fd = fndL m kids from HFD.out)
  have H0 := Lib.hid (show RaRel m kids w1 (.int .i64 0) w1 from ⟨.nil, kids, rfl, rfl, rfl, Below.refl _ _⟩)
  clear HFD
  go_wp2_with (go_at_call 20; (with_reducible refine (HH.out _).mono ?_); rintro r2 w2 ⟨rfl, rfl⟩)
  clear x0 x1 x2 x3 x4 x5 x6 x7 x8 x9 x10
  go_loopw [18] (fun t18 wr => RaRel m kids w2 t18 wr) (fun t18 _ => n - (intOf t18).toNat)
  case atStart => exact H0.out
  case round =>
    clear H0
    obtain ⟨dn, rest, rfl, hk, hfd, hBr⟩ := hrel
    have hlen := HLEN.out
    rw [hk, Eo.len_app] at hlen
    have HZR := Lib.hid (HZ.out.below hBr)
    have HBr := Lib.hid (bel_tr HB.out hBr)
    have HB1 := Lib.hid hBr
    cases rest with
    | nil =>
      have hj : ¬ (dn.len : Int) < (n : Int) := by have : Eo.len .nil = 0 := rfl; omega
      have HN := Lib.hid (show fd = none by rw [HFL.out, hk, Eo.app_nil, hfd])
      have c0 := HZR.out.cell 0 rfl; have f0 := HZR.out.free 0 (by simp [Z11]); have c1 := HZR.out.cell 1 rfl; have f1 := HZR.out.free 1 (by simp [Z11]); have c2 := HZR.out.cell 2 rfl; have f2 := HZR.out.free 2 (by simp [Z11]); have c3 := HZR.out.cell 3 rfl; have f3 := HZR.out.free 3 (by simp [Z11]); have c4 := HZR.out.cell 4 rfl; have f4 := HZR.out.free 4 (by simp [Z11]); have c5 := HZR.out.cell 5 rfl; have f5 := HZR.out.free 5 (by simp [Z11]); have c6 := HZR.out.cell 6 rfl; have f6 := HZR.out.free 6 (by simp [Z11]); have c7 := HZR.out.cell 7 rfl; have f7 := HZR.out.free 7 (by simp [Z11]); have c8 := HZR.out.cell 8 rfl; have f8 := HZR.out.free 8 (by simp [Z11]); have c9 := HZR.out.cell 9 rfl; have f9 := HZR.out.free 9 (by simp [Z11]); have c10 := HZR.out.cell 10 rfl; have f10 := HZR.out.free 10 (by simp [Z11])
      clear hk hlen hfd hBr
      go_wp2_with fail
      rw [HN.out]
      exact ct_fin (f := false) (kids := .nil) (k := 0) (i := 0) (c := 0) (t := []) (b := Dt.zero) (cs := []) (bl := none) (bn := 0) (bc := 0) (cl := none) (cn := 0) (cc := 0) (l := none) (n := 0) (cap := 0) (vs := []) (w2 := wr) Tryz.results36 rfl rfl ⟨HLT.out.1, Nat.lt_of_lt_of_le HLT.out.2.1 HB1.out.size⟩ HBr.out HZR.out (FoAt.nil _ _) (Row.nil _ _ _) ⟨Row.nil _ _ _, rfl⟩ (Below.refl _ _)
    | cons k2 i2 c2 t2 b2 cs2 ks r2 =>
      have hlr : (Eo.cons k2 i2 c2 t2 b2 cs2 ks r2).len = r2.len + 1 := rfl
      have hF := HF.out.same (w' := wr) (fun x _ hlt => HBr.out.block x hlt) (fun x hx _ => hx)
      rw [hk] at hF
      obtain ⟨bb, off, bl2, bn2, bc2, cl2, cn2, cc2, a2, n2, cp2, rfl, hkF, he, _, hjn⟩ := hF.elem
      have e0 := he 0 (by omega)
      have e1 := he 1 (by omega)
      have e2 := he 2 (by omega)
      have e3 := he 3 (by omega)
      have e4 := he 4 (by omega)
      have e5 := he 5 (by omega)
      have e6 := he 6 (by omega)
      have e7 := he 7 (by omega)
      have e8 := he 8 (by omega)
      have e9 := he 9 (by omega)
      have e10 := he 10 (by omega)
      simp only [V11, List.getElem?_cons_zero, List.getElem?_cons_succ, Nat.add_zero] at e0 e1 e2 e3 e4 e5 e6 e7 e8 e9 e10
      have hj : (dn.len : Int) < (n : Int) := by omega
      obtain ⟨hall, hr, hok⟩ := HALL.out
      have hOK : RAFOK m ks := by
        rw [hk] at hall
        exact (Eo.All.split dn hall).1
      have hr2 : rightE ⟨k2, i2, c2, t2, b2, cs2, ks⟩ = true := by
        have h3 := hr
        unfold rightE rright1 at h3
        rw [Bool.and_eq_true] at h3
        have h4 := h3.2
        dsimp only at h4
        rw [hk] at h4
        exact right_head (rrightL_app _ dn h4)
      have hok2 : okS ⟨k2, i2, c2, t2, b2, cs2, ks⟩ := by
        have h4 := okC_app dn (hk ▸ hok.2.2.2 : okC (dn.app (.cons k2 i2 c2 t2 b2 cs2 ks r2)))
        exact ⟨h4.1, h4.2.1, h4.2.2.1, h4.2.2.2.1⟩
      have HC := Lib.hid (hOK k2 i2 c2 t2 b2 cs2 bl2 bn2 bc2 cl2 cn2 cc2 a2 n2 cp2 S wr hkF (fun x hx2 => Nat.lt_of_lt_of_le (HS.out x hx2) HBr.out.size) hr2 hok2)
      unfold vE at HC
      have hfl : fd = match fnd1 m ⟨k2, i2, c2, t2, b2, cs2, ks⟩ with | some x => some x | none => fndL m r2 := by
        rw [HFL.out, hk, fndL_app, hfd, fndL_cons] <;> rfl
      have hfn : fnd1 m ⟨k2, i2, c2, t2, b2, cs2, ks⟩ = none → fndL m (dn.app (.cons k2 i2 c2 t2 b2 cs2 ks .nil)) = none := fun h => by
        rw [fndL_app, hfd, fndL_cons, h]
        rfl
      have HKK := Lib.hid hk
      have HFN := Lib.hid (And.intro hfl hfn)
      have x10 := (HP.out.below hBr).cell 10 rfl
      generalize hjj : dn.len = j at *
      have HJJ := Lib.hid hjj
      have HJ := Lib.hid hjn
      clear hk hlen hF hkF he hlr hall hr hok hOK hr2 hok2 hfl hfn hfd hBr hjj
      generalize fnd1 m ⟨k2, i2, c2, t2, b2, cs2, ks⟩ = fe at *
      go_upto_region 7 with (first
        | (go_at_call 36; (with_reducible refine HC.out.mono ?_); intro r4 w4 h4; obtain ⟨bl3, bn3, bc3, cl3, cn3, cc3, l3, n3, cap3, vs3, rfl, hF3, hR3, hT3, hB4⟩ := CLT.ahead h4
           have HR := Lib.hid (And.intro hF3 (And.intro hR3 (And.intro hT3 hB4)))
           unfold vE
           clear hF3 hR3 hT3 hB4 h4))
      change Code.wp _ _ _ _ (ebox w4 (fe.getD Et.zero).k (fe.getD Et.zero).i (fe.getD Et.zero).c (fe.getD Et.zero).t (fe.getD Et.zero).b bl3 bn3 bc3 cl3 cn3 cc3 l3 n3 cap3)
      have hY := ebox_blk w4 (fe.getD Et.zero).k (fe.getD Et.zero).i (fe.getD Et.zero).c (fe.getD Et.zero).t (fe.getD Et.zero).b bl3 bn3 bc3 cl3 cn3 cc3 l3 n3 cap3
      have hB5 := ebox_below w4 (fe.getD Et.zero).k (fe.getD Et.zero).i (fe.getD Et.zero).c (fe.getD Et.zero).t (fe.getD Et.zero).b bl3 bn3 bc3 cl3 cn3 cc3 l3 n3 cap3
      generalize ebox w4 (fe.getD Et.zero).k (fe.getD Et.zero).i (fe.getD Et.zero).c (fe.getD Et.zero).t (fe.getD Et.zero).b bl3 bn3 bc3 cl3 cn3 cc3 l3 n3 cap3 = w5 at *
      obtain ⟨y, hy⟩ : ∃ x, x = w4.heap.size := ⟨_, rfl⟩
      rw [← hy] at hY
      rw [← hy]
      have HB5 := Lib.hid hB5
      have hjn := HJ.out
      clear e0 e1 e2 e3 e4 e5 e6 e7 e8 e9 e10
      cases fe with
      | none =>
        clear hY hB5 hy
        go_wp2_with fail
        go_roundw
        case rel =>
          exact ⟨dn.app (.cons k2 i2 c2 t2 b2 cs2 ks .nil), r2, by rw [Eo.len_app, HJJ.out]; simp [Eo.len], by rw [Eo.app_assoc]; exact HKK.out, HFN.out.2 rfl, bel_tr (bel_tr HB1.out HR.out.2.2.2) HB5.out⟩
        case measure => simp [intOf]; omega
      | some x =>
        have hY' : Blk w5 y (V11 x.k x.i x.c x.t x.b bl3 bn3 bc3 cl3 cn3 cc3 l3 n3 cap3) := hY
        have y0 := hY'.cell 0 rfl
        have y1 := hY'.cell 1 rfl
        have y2 := hY'.cell 2 rfl
        have y3 := hY'.cell 3 rfl
        have y4 := hY'.cell 4 rfl
        have y5 := hY'.cell 5 rfl
        have y6 := hY'.cell 6 rfl
        have y7 := hY'.cell 7 rfl
        have y8 := hY'.cell 8 rfl
        have y9 := hY'.cell 9 rfl
        have y10 := hY'.cell 10 rfl
        have HZ9 := Lib.hid ((HZR.out.below HR.out.2.2.2).below hB5)
        have c0 := HZ9.out.cell 0 rfl; have f0 := HZ9.out.free 0 (by simp [Z11]); have c1 := HZ9.out.cell 1 rfl; have f1 := HZ9.out.free 1 (by simp [Z11]); have c2 := HZ9.out.cell 2 rfl; have f2 := HZ9.out.free 2 (by simp [Z11]); have c3 := HZ9.out.cell 3 rfl; have f3 := HZ9.out.free 3 (by simp [Z11]); have c4 := HZ9.out.cell 4 rfl; have f4 := HZ9.out.free 4 (by simp [Z11]); have c5 := HZ9.out.cell 5 rfl; have f5 := HZ9.out.free 5 (by simp [Z11]); have c6 := HZ9.out.cell 6 rfl; have f6 := HZ9.out.free 6 (by simp [Z11]); have c7 := HZ9.out.cell 7 rfl; have f7 := HZ9.out.free 7 (by simp [Z11]); have c8 := HZ9.out.cell 8 rfl; have f8 := HZ9.out.free 8 (by simp [Z11]); have c9 := HZ9.out.cell 9 rfl; have f9 := HZ9.out.free 9 (by simp [Z11]); have c10 := HZ9.out.cell 10 rfl; have f10 := HZ9.out.free 10 (by simp [Z11])
        have HN := Lib.hid (show fd = some x from HFN.out.1)
        have HR5 := Lib.hid (show FoAt (fun q => wr.heap.size ≤ q) w5 x.b.l bl3 bn3 bc3 ∧ Row wr.heap.size w5 1 cl3 cn3 cc3 (I8 x.cs) ∧ (Row wr.heap.size w5 11 l3 n3 cap3 vs3 ∧ EAt (fun q => wr.heap.size ≤ q ∧ blockOf l3 ≠ some q) w5 x.l vs3) ∧ Below wr.heap.size wr w5 from by
          obtain ⟨g1, g2, g3, g4⟩ := HR.out
          exact ⟨g1.same (fun q _ hl => hB5.block q hl) (fun _ hq _ => hq), g2.below hB5, ⟨g3.1.below hB5, EAt.same _ g3.2 (fun q _ hl => hB5.block q hl) (fun _ hq _ => hq)⟩, bel_tr g4 hB5⟩)
        clear hY hY' hB5 hy
        go_wp2_with fail
        rw [HN.out]
        exact ct_fin (w2 := wr) (f := true) Tryz.results36 rfl rfl ⟨HLT.out.1, Nat.lt_of_lt_of_le HLT.out.2.1 HB1.out.size⟩ HBr.out HZ9.out HR5.out.1 HR5.out.2.1 HR5.out.2.2.1 HR5.out.2.2.2
theorem raAll (m : Int) : ∀ f : Eo, f.All (RAFOK m)
  | .nil => trivial
  | .cons _ _ _ _ _ _ kids rest => ⟨rasfaceN (raAll m kids), raAll m rest⟩
theorem rasfaceG (m : Int) (kids : Eo) : RAFOK m kids := rasfaceN (raAll m kids)
end Go.Proofs.YtbldidiibkcelaaGreatDoor

