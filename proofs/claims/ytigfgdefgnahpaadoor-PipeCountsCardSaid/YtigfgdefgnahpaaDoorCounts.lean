/-
  The walk of CopyN (the code's): so many bytes. Not a statement of the seat.
-/
import Derived.Test.YtigfgdefgnahpaaDoorCopies
import Derived.Test.YtigfgdefgnahpaaDoorLosesPure
import Derived.Deep.CutBlock
import Derived.Deep.CutRange
namespace Go.Proofs.YtigfgdefgnahpaaDoor
open Go.RowKit

/-- a limit -/
def limW (most : Int) : Wr := freshW 3 most [] 0 false
theorem Rd.put9 {w : World} {sz : Nat} {a : Option Addr} {n c b : Nat} {xs : List Value} (h : Rd w sz a n c xs) (hn : blockOf a ≠ some b) (v0 v1 v2 v3 v4 v5 v6 v7 v8 : Value) :
    Rd (((((((((w.setCell ⟨b, 0, none⟩ v0).setCell ⟨b, 1, none⟩ v1).setCell ⟨b, 2, none⟩ v2).setCell ⟨b, 3, none⟩ v3).setCell ⟨b, 4, none⟩ v4).setCell ⟨b, 5, none⟩ v5).setCell ⟨b, 6, none⟩ v6).setCell ⟨b, 7, none⟩ v7).setCell ⟨b, 8, none⟩ v8) sz a n c xs :=
  ((((((((h.kept (grownBy_setAt _ ⟨b, 0, none⟩ v0) (.inl hn)).kept (grownBy_setAt _ ⟨b, 1, none⟩ v1) (.inl hn)).kept (grownBy_setAt _ ⟨b, 2, none⟩ v2) (.inl hn)).kept (grownBy_setAt _ ⟨b, 3, none⟩ v3) (.inl hn)).kept (grownBy_setAt _ ⟨b, 4, none⟩ v4) (.inl hn)).kept (grownBy_setAt _ ⟨b, 5, none⟩ v5) (.inl hn)).kept (grownBy_setAt _ ⟨b, 6, none⟩ v6) (.inl hn)).kept (grownBy_setAt _ ⟨b, 7, none⟩ v7) (.inl hn)).kept (grownBy_setAt _ ⟨b, 8, none⟩ v8) (.inl hn)
theorem cnEnd {w w3 w4 : World} {b : Nat} {b1 b2 : Option Addr} {m1 d1 m2 d2 : Nat} {xs ys : List Value} {x0 x1 x2 x3 x4 x5 x6 x7 x8 : Value} (hz : Blk w4 b [x0, x1, x2, x3, x4, x5, x6, x7, x8]) (hb : Below w.heap.size w w4) (hbs : w.heap.size ≤ b) (hlt : b < w3.heap.size)
    (ha : Rd w4 1 b1 m1 d1 xs) (hc : Rd w4 1 b2 m2 d2 ys) (hga : ∀ x, blockOf b1 = some x → w3.heap.size ≤ x) (hgb : ∀ x, blockOf b2 = some x → w3.heap.size ≤ x) (v0 v1 v2 v3 v6 v7 v8 : Value) (o : Obj) {w9 : World}
    (h9 : ((((((((((w4.setCell ⟨b, 0, none⟩ v0).setCell ⟨b, 1, none⟩ v1).setCell ⟨b, 2, none⟩ v2).setCell ⟨b, 3, none⟩ v3).setCell ⟨b, 4, none⟩ (.slice b1 m1 d1)).setCell ⟨b, 5, none⟩ (.slice b2 m2 d2)).setCell ⟨b, 6, none⟩ v6).setCell ⟨b, 7, none⟩ v7).setCell ⟨b, 8, none⟩ v8).alloc o) = w9) :
    Blk w9 b [v0, v1, v2, v3, .slice b1 m1 d1, .slice b2 m2 d2, v6, v7, v8] ∧ Below w.heap.size w w9 ∧ Rd w9 1 b1 m1 d1 xs ∧ Rd w9 1 b2 m2 d2 ys := by
  subst h9
  have hn1 : blockOf b1 ≠ some b := fun e => by have := hga _ e; omega
  have hn2 : blockOf b2 ≠ some b := fun e => by have := hgb _ e; omega
  refine ⟨(Blk.put9 hz v0 v1 v2 v3 _ _ v6 v7 v8).alloc _, ?_, (Rd.put9 ha hn1 v0 v1 v2 v3 _ _ v6 v7 v8).alloc _, (Rd.put9 hc hn2 v0 v1 v2 v3 _ _ v6 v7 v8).alloc _⟩
  have h1 := Below.put9 hb hbs v0 v1 v2 v3 (.slice b1 m1 d1) (.slice b2 m2 d2) v6 v7 v8
  exact h1.alloc h1.size _

set_option maxRecDepth 100000 in
set_option maxHeartbeats 4000000 in
theorem copyNN {most : Int} {eb p F : Nat} {dat : ByteArray} {sa ta pa qa : Option Addr} {sn sc tn tc pn pc qn qc bulk m way : Nat} {zs tzs : List Int} {early broken wrt tover trd : Bool} {troom e : Int} {ps qs : List Pp} {R : Cp} {w : World}
    (hZ : RdK w free none 1 sa sn sc (I3 zs)) (hP : Pipes w free pa pn pc ps) (hTZ : RdK w free none 1 ta tn tc (I3 tzs)) (hQ : Pipes w free qa qn qc qs) (hrd : ∀ x ∈ ps, x.rd = false) (hpn : pn ≤ 10) (hqn : qn ≤ 10)
    (hok : CpOk p ⟨limW most :: upto ps pn, srcOf dat.data.toList zs early broken, uptoK qs qn, freshT tzs troom tover, 0⟩) (hbk : trd = true → 1 ≤ bulk ∧ bulk ≤ 1000000) (hm1 : 1 ≤ m) (hm2 : m ≤ 1000000)
    (hE : EOFat w free eb) (hET : ETat w free) (hF : (srcOf dat.data.toList zs early broken).rem p < F)
    (hres : copyM ⟨wrt, fun _ => 0⟩ ⟨trd, fun _ => 0⟩ bulk m F ⟨limW most :: upto ps pn, srcOf dat.data.toList zs early broken, uptoK qs qn, freshT tzs troom tover, 0⟩ = (R, e, (way : Int))) :
    Calls Tryd.prog 19 #[.agg #[.string dat, .slice sa sn sc, .bool early, .bool broken, .bool wrt, .slice pa pn pc], .agg #[.slice ta tn tc, .int .i64 troom, .bool tover, .bool trd, .int .i64 (bulk : Int), .slice qa qn qc], .int .i64 most, .int .i64 m] w (ToldP R.tot (cnE most R.tot e) way R.t R.s (sideTs R.l) (cntsOf R.l ++ cntsK R.k) w) := by
  have hd : dat.size ≤ 65535 := by have := hok.s.2.2.2; have h2 : dat.data.toList.length = dat.size := Array.length_toList; dsimp only [srcOf] at this; omega
  obtain ⟨wq, hwq⟩ : ∃ wq, ((w.alloc (.cells #[.string dat, .slice sa sn sc, .bool early, .bool broken, .bool wrt, .slice pa pn pc] 25)).alloc (.cells #[.slice ta tn tc, .int .i64 troom, .bool tover, .bool trd, .int .i64 (bulk : Int), .slice qa qn qc] 29)).alloc (.cells #[.int .i64 0, .int .i64 0, .int .i64 0, .string ⟨#[]⟩, .slice none 0 0, .slice none 0 0, .int .i64 0, .int .i64 0, .int .i64 0] 37) = wq := ⟨_, rfl⟩
  have hbnd : Bnd w free := fun _ _ => rfl
  have hq0 : Step (fun _ => False) w free wq free := by rw [← hwq]; exact (((Step.refl _ hbnd).alloc _).alloc _).alloc _
  have hqs : wq.heap.size = w.heap.size + 3 := by rw [← hwq, sz_alloc, sz_alloc, sz_alloc]
  have hb1 : Blk wq w.heap.size [.string dat, .slice sa sn sc, .bool early, .bool broken, .bool wrt, .slice pa pn pc] := by rw [← hwq]; exact ((Blk.new _ _ _).alloc _).alloc _
  have hb2 : Blk wq (w.heap.size + 1) [.slice ta tn tc, .int .i64 troom, .bool tover, .bool trd, .int .i64 (bulk : Int), .slice qa qn qc] := by rw [← hwq]; have := Blk.new (w.alloc (.cells #[.string dat, .slice sa sn sc, .bool early, .bool broken, .bool wrt, .slice pa pn pc] 25)) #[.slice ta tn tc, .int .i64 troom, .bool tover, .bool trd, .int .i64 (bulk : Int), .slice qa qn qc] 29; rw [sz_alloc] at this; exact this.alloc _
  have hb3 : Blk wq (w.heap.size + 1 + 1) [.int .i64 0, .int .i64 0, .int .i64 0, .string ⟨#[]⟩, .slice none 0 0, .slice none 0 0, .int .i64 0, .int .i64 0, .int .i64 0] := by rw [← hwq]; have := Blk.new ((w.alloc (.cells #[.string dat, .slice sa sn sc, .bool early, .bool broken, .bool wrt, .slice pa pn pc] 25)).alloc (.cells #[.slice ta tn tc, .int .i64 troom, .bool tover, .bool trd, .int .i64 (bulk : Int), .slice qa qn qc] 29)) #[.int .i64 0, .int .i64 0, .int .i64 0, .string ⟨#[]⟩, .slice none 0 0, .slice none 0 0, .int .i64 0, .int .i64 0, .int .i64 0] 37; rw [sz_alloc, sz_alloc] at this; exact this
  obtain ⟨wg, hwg⟩ : ∃ wg, wq.alloc (.cells #[.pointer none, .pointer none, .slice none 0 0, .slice none 0 0, .pointer none] 60) = wg := ⟨_, rfl⟩
  have hg0 : Step (fun k => k = 32) wq free wg (free.give wq.heap.size 32) := by rw [← hwg]; exact ((Step.refl _ hq0.bound).alloc _).give (Nat.le_refl _) (by rw [sz_alloc]; omega) rfl
  have hG : GearAt wg (free.give wq.heap.size 32) wq.heap.size (.pointer none) (.pointer none) (.pointer none) [] [] := by
    refine ⟨none, 0, 0, none, 0, 0, Own.give_same _ _ _, by rw [← hwg]; exact Blk.new _ _ _, ⟨Row.nil _ _ _, fun x hx => by cases hx⟩, ⟨Row.nil _ _ _, fun x hx => by cases hx⟩⟩
  have hwg0 := (hq0.mono (K' := fun k => k = 32) (fun _ h => h.elim)).trans hg0
  have hx1 := hb1.below (by rw [← hwg]; exact (Below.refl _ _).alloc (Nat.le_refl _) _ : Below wq.heap.size wq wg)
  have hx2 := hb2.below (by rw [← hwg]; exact (Below.refl _ _).alloc (Nat.le_refl _) _ : Below wq.heap.size wq wg)
  have HX1 := Lib.hid hx1
  have HX2 := Lib.hid hx2
  have HX3 := Lib.hid (hb3.below (by rw [← hwg]; exact (Below.refl _ _).alloc (Nat.le_refl _) _ : Below wq.heap.size wq wg))
  have HWG0 := Lib.hid hwg0
  have HG := Lib.hid hG
  have HPW := Lib.hid (hP.step hwg0)
  have HQW := Lib.hid (hQ.step hwg0)
  have HZW := Lib.hid (hZ.step hwg0 (fun _ h => by cases h))
  have HTW := Lib.hid (hTZ.step hwg0 (fun _ h => by cases h))
  have HEW := Lib.hid (hE.step hwg0)
  have HTE := Lib.hid (hET.step hwg0)
  have HOK := Lib.hid hok
  have HRES := Lib.hid hres
  have HRD := Lib.hid hrd
  have HF := Lib.hid hF
  have HQS := Lib.hid hqs
  have HGS := Lib.hid (show wg.heap.size = wq.heap.size + 1 by rw [← hwg, sz_alloc])
  have hun : ∀ k, k < 3 → (free.give wq.heap.size 32) (w.heap.size + k) = none := fun k hk => Own.give_other _ (by omega)
  have HUN := Lib.hid hun
  have c0 := hx1.cell 0 rfl
  have c1 := hx1.cell 1 rfl
  have c2 := hx1.cell 2 rfl
  have c3 := hx1.cell 3 rfl
  have c4 := hx1.cell 4 rfl
  have c5 := hx1.cell 5 rfl
  have hplen := hP.len
  have hqlen := hQ.len
  clear hx1 hx2 hb1 hb2 hb3 hq0 hg0 hG hwg0 hZ hP hTZ hQ hE hET hok hres hrd hF hqs hun hbnd
  go_enter Tryd.func19, Tryd.ntmps19
  go_wp2_with fail
  clear hwq hwg c0 c1 c2 c3 c4 c5
  refine (sourceN HG.out HZW.out HPW.out HRD.out (by omega) hd HWG0.out.bound).mono ?_
  rintro e1 w1 ⟨v1, rfl, r1, sh, hsw, g1, hC1, hG1⟩
  have HX2a := Lib.hid (HX2.out.unowned g1 (HUN.out 1 (by omega)))
  have HX3a := Lib.hid (HX3.out.unowned g1 (HUN.out 2 (by omega)))
  have hun0 : r1 (w.heap.size + 1) = none ∧ r1 (w.heap.size + 1 + 1) = none := by
    have := HQS.out
    have := HGS.out
    exact ⟨by rw [g1.old _ (by omega)]; exact HUN.out 1 (by omega), by rw [g1.old _ (by omega)]; exact HUN.out 2 (by omega)⟩
  have HUN0 := Lib.hid hun0
  have HG1a := Lib.hid g1
  have HC1a := Lib.hid hC1
  have HGAa := Lib.hid hG1
  have HSW := Lib.hid hsw
  have hul : (upto ps pn).length = pn := upto_len (by omega)
  have HUL := Lib.hid hul
  clear g1 hC1 hG1 hun0 hsw hul
  go_wp2_with fail
  refine (wrapN (op := 3) (n := most) (room := 0) (over := false) (zs := []) HGAa.out HC1a.out ⟨Rd.nil _ _, .inl rfl⟩ HG1a.out.bound (by rw [HUL.out]; omega) (by have := countsOf_len sh (upto ps pn); have := HUL.out; omega) (by have := sidesOf_len sh (upto ps pn); have := HUL.out; omega)).mono ?_
  rintro e1 w1b ⟨v1b, rfl, r1b, bb, g1b, hC1b, hG1b⟩
  rw [HUL.out] at g1b hC1b
  obtain ⟨shb, hshb⟩ : ∃ shb, sh.upd (pn + 1) bb = shb := ⟨_, rfl⟩
  rw [hshb] at hC1b
  have hswb : shb.wr = wrt := by rw [← hshb]; exact HSW.out
  have g1t : Step (fun k => k ≤ 34) (wg) (free.give wq.heap.size 32) w1b r1b := (HG1a.out.mono (fun k hk => hk.1)).trans (g1b.mono (fun j hj => by omega))
  have hlq : limOf shb (limW most :: upto ps pn) = ptr bb ∧ sidesOf shb (limW most :: upto ps pn) = sidesOf sh (upto ps pn) ∧ countsOf shb (limW most :: upto ps pn) = countsOf sh (upto ps pn) ∧ shb.bl 0 = sh.bl 0 := by
    rw [← hshb]
    have hul : (upto ps pn).length = pn := HUL.out
    refine ⟨?_, ?_, ?_, ?_⟩
    · simp only [limOf, limW, freshW, if_true, hul, Sh.upd]
    · show (if (3 : Int) = 4 then sidesOf (sh.upd (pn + 1) bb) (upto ps pn) ++ [ptr ((sh.upd (pn + 1) bb).bl ((upto ps pn).length + 1))] else sidesOf (sh.upd (pn + 1) bb) (upto ps pn)) = _
      rw [if_neg (by decide), sidesOf_upd (by omega)]
    · show (if (3 : Int) = 2 then countsOf (sh.upd (pn + 1) bb) (upto ps pn) ++ [ptr ((sh.upd (pn + 1) bb).bl ((upto ps pn).length + 1))] else countsOf (sh.upd (pn + 1) bb) (upto ps pn)) = _
      rw [if_neg (by decide), countsOf_upd (by omega)]
    · simp [Sh.upd]
  have hG1c : GearAt w1b r1b wq.heap.size (ptr (shb.bl 0)) (.pointer none) (limOf shb (limW most :: upto ps pn)) (sidesOf shb (limW most :: upto ps pn)) (countsOf shb (limW most :: upto ps pn)) := by
    rw [hlq.1, hlq.2.1, hlq.2.2.1, hlq.2.2.2]
    exact hG1b
  have HX2b := Lib.hid (HX2a.out.unowned g1b HUN0.out.1)
  have HX3b := Lib.hid (HX3a.out.unowned g1b HUN0.out.2)
  have HUN1 := Lib.hid (show r1b (w.heap.size + 1) = none ∧ r1b (w.heap.size + 1 + 1) = none from ⟨(g1b.old _ HX2a.out.lt).trans HUN0.out.1, (g1b.old _ HX3a.out.lt).trans HUN0.out.2⟩)
  have HG1 := Lib.hid g1t
  have HC1 := Lib.hid hC1b
  have HGA := Lib.hid hG1c
  have HSWB := Lib.hid hswb
  clear g1b hC1b hG1b g1t hG1c hlq hshb hswb HSW HG1a HC1a HGAa HX2a HX3a HUN0
  have c0 := HX2b.out.cell 0 rfl
  have c1 := HX2b.out.cell 1 rfl
  have c2 := HX2b.out.cell 2 rfl
  have c3 := HX2b.out.cell 3 rfl
  have c4 := HX2b.out.cell 4 rfl
  have c5 := HX2b.out.cell 5 rfl
  go_wp2_with fail
  clear c0 c1 c2 c3 c4 c5
  have hul : (upto ps pn).length = pn := HUL.out
  refine (sinkN HGA.out (HTW.out.step HG1.out (fun _ h => by cases h)) (HQW.out.step HG1.out) (by omega) (by have := countsOf_len shb (limW most :: upto ps pn); rw [List.length_cons, hul] at this; omega) HG1.out.bound).mono ?_
  rintro e2 w2 ⟨v2, rfl, r2, sk, hsk, g2, hS2, hG2⟩
  have hcm : copyM shb sk bulk m F ⟨limW most :: upto ps pn, srcOf dat.data.toList zs early broken, uptoK qs qn, freshT tzs troom tover, 0⟩ = (R, e, (way : Int)) := by
    rw [← HRES.out]; unfold copyM; rw [HSWB.out, hsk]
  have hst := copyM_stays (sh := shb) (sk := sk) (bulk := bulk) (m := m) (F := F) HOK.out hm1 (fun h => (hbk (by rw [← hsk]; exact h)).1)
  rw [hcm] at hst
  obtain ⟨st1, st2, st3⟩ := hst
  have hC2 := HC1.out.step g2 (fun k hk h => by unfold KS at h; rw [List.length_cons, hul] at hk; omega) (by unfold KS; omega)
  have HX3c := Lib.hid (HX3b.out.unowned g2 HUN1.out.2)
  have hun2 : r2 (w.heap.size + 1 + 1) = none := by rw [g2.old _ (HX3b.out.lt)]; exact HUN1.out.2
  have HUN2 := Lib.hid hun2
  have HG2 := Lib.hid g2
  have HGB := Lib.hid hG2
  have hrun := runN (eb := eb) hG2 hC2 hS2 HOK.out (by show (limW most :: upto ps pn).length < 20; rw [List.length_cons, hul]; omega) ((HEW.out.step HG1.out).step g2) g2.bound rfl HF.out (fun h => hbk (by rw [← hsk]; exact h)) hm1 hm2 hcm rfl rfl
  obtain ⟨ev, hev⟩ : ∃ ev, errV eb e = ev := ⟨_, rfl⟩
  rw [hev] at hrun
  have HEV := Lib.hid hev
  have HRUN := Lib.hid hrun
  have HST := Lib.hid (And.intro st1 (And.intro st2 st3))
  clear g2 hS2 hG2 hC2 hcm hrun hev st1 st2 st3 hun2 hsk hul
  go_wp2_with fail
  refine HRUN.out.mono ?_
  rintro e3 w3 ⟨rfl, r3, g3, hC3, hS3⟩
  have hgear := HGB.out.step g3 (by unfold KC; omega) (by unfold KC; omega) (by unfold KC; omega)
  obtain ⟨so1, so2⟩ := sidesOf_ops (sh := shb) HST.out.1
  have so3 := skCounts_ops (sk := sk) HST.out.2.1
  have hcs := chainSides hC3
  have hks := sinkSides hS3
  rw [so1, so2] at hcs
  rw [so3] at hks
  have hul : (upto ps pn).length = pn := HUL.out
  have hul2 : (uptoK qs qn).length = qn := uptoK_len (by omega)
  have htold := told (eb := eb) (n := R.tot) (way := way) hgear (chainSrc hC3) (sinkTank hS3) (((HTE.out.step HG1.out).step HG2.out).step g3) ⟨hcs.1, hcs.2.both hks⟩ ⟨by have := sidesOf_len shb (limW most :: upto ps pn); rw [List.length_cons, hul] at this; omega, by rw [List.length_append]; have := countsOf_len shb (limW most :: upto ps pn); rw [List.length_cons, hul] at this; have := skCounts_len sk (uptoK qs qn); omega⟩ g3.bound HST.out.2.2
  rw [HEV.out] at htold
  have HTOLD := Lib.hid htold
  have HX3d := Lib.hid (HX3c.out.unowned g3 HUN2.out)
  have hall : Step (fun _ => True) w free w3 r3 := (((HWG0.out.mono (fun _ _ => trivial)).trans (HG1.out.mono (fun _ _ => trivial))).trans (HG2.out.mono (fun _ _ => trivial))).trans (g3.mono (fun _ _ => trivial))
  have HB3 := Lib.hid (hall.below (Nat.le_refl _) (fun _ _ => rfl))
  clear hgear so1 so2 so3 hcs hks htold hall g3 hC3 hS3 hul hul2
  go_wp2_with fail
  refine HTOLD.out.mono ?_
  rintro e4 w4 ⟨b1, m1, d1', b2, m2, d2', rfl, hb4, hrA, hrB, hgA, hgB⟩
  have hz := HX3d.out.below hb4
  have y0 := hz.cell 0 rfl
  have z0 := hz.free 0 (by simp)
  have y1 := hz.cell 1 rfl
  have z1 := hz.free 1 (by simp)
  have y2 := hz.cell 2 rfl
  have z2 := hz.free 2 (by simp)
  have y3 := hz.cell 3 rfl
  have z3 := hz.free 3 (by simp)
  have y4 := hz.cell 4 rfl
  have z4 := hz.free 4 (by simp)
  have y5 := hz.cell 5 rfl
  have z5 := hz.free 5 (by simp)
  have y6 := hz.cell 6 rfl
  have z6 := hz.free 6 (by simp)
  have y7 := hz.cell 7 rfl
  have z7 := hz.free 7 (by simp)
  have y8 := hz.cell 8 rfl
  have z8 := hz.free 8 (by simp)
  have HZ := Lib.hid hz
  have HB4 := Lib.hid (HB3.out.trans (hb4.mono HB3.out.size))
  have HLT := Lib.hid HX3d.out.lt
  have HGA' := Lib.hid hgA
  have HGB' := Lib.hid hgB
  have HRA := Lib.hid hrA
  have HRB := Lib.hid hrB
  obtain ⟨sv, hsv⟩ : ∃ sv, hasS R.t = Value.string sv := ⟨_, rfl⟩
  rw [hsv]
  have HSV := Lib.hid hsv
  clear hz hb4 hrA hrB hsv hgA hgB
  have hlt3 : w.heap.size + 1 + 1 < w4.heap.size := World.block_lt_of_cell? _ _ y0
  have hcase : ((R.tot : Int) = most ∧ cnE most R.tot e = 0) ∨ (¬ (R.tot : Int) = most ∧ (R.tot : Int) < most ∧ e = 0 ∧ cnE most R.tot e = 364) ∨ (¬ (R.tot : Int) = most ∧ (R.tot : Int) < most ∧ ¬ e = 0 ∧ cnE most R.tot e = e) ∨ (¬ (R.tot : Int) = most ∧ ¬ (R.tot : Int) < most ∧ cnE most R.tot e = e) := by
    unfold cnE
    by_cases h1 : (R.tot : Int) = most
    · left; exact ⟨h1, by rw [if_pos h1]⟩
    · right
      rw [if_neg h1]
      by_cases h2 : (R.tot : Int) < most
      · by_cases h3 : e = 0
        · left; exact ⟨h1, h2, h3, by rw [if_pos ⟨h2, h3⟩]⟩
        · right; left; exact ⟨h1, h2, h3, by rw [if_neg (fun h => h3 h.2)]⟩
      · right; right; exact ⟨h1, h2, by rw [if_neg (fun h => h2 h.1)]⟩
  rcases hcase with ⟨h1, h2⟩ | ⟨h1, h2, h3, h4⟩ | ⟨h1, h2, h3, h4⟩ | ⟨h1, h2, h3⟩
  · have e1 : ((R.tot : Int) == most) = true := by simpa using h1
    have H2 := Lib.hid h2
    clear h1 h2
    go_wp2_with fail
    clear y0 y1 y2 y3 y4 y5 y6 y7 y8 z0 z1 z2 z3 z4 z5 z6 z7 z8
    generalize h9 : World.alloc _ _ = w9
    obtain ⟨hF, hbel, hra, hrb⟩ := cnEnd HZ.out HB4.out (by omega) HLT.out HRA.out HRB.out HGA'.out HGB'.out _ _ _ _ _ _ _ _ h9
    clear h9
    have d0 := hF.cell 0 rfl
    have d1 := hF.cell 1 rfl
    have d2 := hF.cell 2 rfl
    have d3 := hF.cell 3 rfl
    have d4 := hF.cell 4 rfl
    have d5 := hF.cell 5 rfl
    have d6 := hF.cell 6 rfl
    have d7 := hF.cell 7 rfl
    have d8 := hF.cell 8 rfl
    rw [H2.out]
    refine bodyPost_ret (v := .agg #[.int .i64 (R.tot : Int), .int .i64 0, .int .i64 (way : Int), .string sv, .slice b1 m1 d1', .slice b2 m2 d2', .int .i64 (R.s.k : Int), .int .i64 (R.t.k : Int), .int .i64 (R.s.left : Int)]) (by simp [results, Tryd.f19, go_sem, d0, d1, d2, d3, d4, d5, d6, d7, d8]) rfl ?_
    refine ⟨b1, m1, d1', b2, m2, d2', by rw [HSV.out], hbel, hra, hrb, fun x hx => ?_, fun x hx => ?_⟩
    · have := HGA'.out x hx; have := HB3.out.size; omega
    · have := HGB'.out x hx; have := HB3.out.size; omega
  · have e1 : ((R.tot : Int) == most) = false := by simpa using h1
    have e2 : decide ((R.tot : Int) < most) = true := by simpa using h2
    subst h3
    have H2 := Lib.hid h4
    clear h1 h2 h4
    go_wp2_with fail
    clear y0 y1 y2 y3 y4 y5 y6 y7 y8 z0 z1 z2 z3 z4 z5 z6 z7 z8
    generalize h9 : World.alloc _ _ = w9
    obtain ⟨hF, hbel, hra, hrb⟩ := cnEnd HZ.out HB4.out (by omega) HLT.out HRA.out HRB.out HGA'.out HGB'.out _ _ _ _ _ _ _ _ h9
    clear h9
    have d0 := hF.cell 0 rfl
    have d1 := hF.cell 1 rfl
    have d2 := hF.cell 2 rfl
    have d3 := hF.cell 3 rfl
    have d4 := hF.cell 4 rfl
    have d5 := hF.cell 5 rfl
    have d6 := hF.cell 6 rfl
    have d7 := hF.cell 7 rfl
    have d8 := hF.cell 8 rfl
    rw [H2.out]
    refine bodyPost_ret (v := .agg #[.int .i64 (R.tot : Int), .int .i64 364, .int .i64 (way : Int), .string sv, .slice b1 m1 d1', .slice b2 m2 d2', .int .i64 (R.s.k : Int), .int .i64 (R.t.k : Int), .int .i64 (R.s.left : Int)]) (by simp [results, Tryd.f19, go_sem, d0, d1, d2, d3, d4, d5, d6, d7, d8]) rfl ?_
    refine ⟨b1, m1, d1', b2, m2, d2', by rw [HSV.out], hbel, hra, hrb, fun x hx => ?_, fun x hx => ?_⟩
    · have := HGA'.out x hx; have := HB3.out.size; omega
    · have := HGB'.out x hx; have := HB3.out.size; omega
  · have e1 : ((R.tot : Int) == most) = false := by simpa using h1
    have e2 : decide ((R.tot : Int) < most) = true := by simpa using h2
    have e3 : (e == 0) = false := by simpa using h3
    have H2 := Lib.hid h4
    clear h1 h2 h3 h4
    go_wp2_with fail
    clear y0 y1 y2 y3 y4 y5 y6 y7 y8 z0 z1 z2 z3 z4 z5 z6 z7 z8
    generalize h9 : World.alloc _ _ = w9
    obtain ⟨hF, hbel, hra, hrb⟩ := cnEnd HZ.out HB4.out (by omega) HLT.out HRA.out HRB.out HGA'.out HGB'.out _ _ _ _ _ _ _ _ h9
    clear h9
    have d0 := hF.cell 0 rfl
    have d1 := hF.cell 1 rfl
    have d2 := hF.cell 2 rfl
    have d3 := hF.cell 3 rfl
    have d4 := hF.cell 4 rfl
    have d5 := hF.cell 5 rfl
    have d6 := hF.cell 6 rfl
    have d7 := hF.cell 7 rfl
    have d8 := hF.cell 8 rfl
    rw [H2.out]
    refine bodyPost_ret (v := .agg #[.int .i64 (R.tot : Int), .int .i64 e, .int .i64 (way : Int), .string sv, .slice b1 m1 d1', .slice b2 m2 d2', .int .i64 (R.s.k : Int), .int .i64 (R.t.k : Int), .int .i64 (R.s.left : Int)]) (by simp [results, Tryd.f19, go_sem, d0, d1, d2, d3, d4, d5, d6, d7, d8]) rfl ?_
    refine ⟨b1, m1, d1', b2, m2, d2', by rw [HSV.out], hbel, hra, hrb, fun x hx => ?_, fun x hx => ?_⟩
    · have := HGA'.out x hx; have := HB3.out.size; omega
    · have := HGB'.out x hx; have := HB3.out.size; omega
  · have e1 : ((R.tot : Int) == most) = false := by simpa using h1
    have e2 : decide ((R.tot : Int) < most) = false := by simpa using h2
    have H2 := Lib.hid h3
    clear h1 h2 h3
    go_wp2_with fail
    clear y0 y1 y2 y3 y4 y5 y6 y7 y8 z0 z1 z2 z3 z4 z5 z6 z7 z8
    generalize h9 : World.alloc _ _ = w9
    obtain ⟨hF, hbel, hra, hrb⟩ := cnEnd HZ.out HB4.out (by omega) HLT.out HRA.out HRB.out HGA'.out HGB'.out _ _ _ _ _ _ _ _ h9
    clear h9
    have d0 := hF.cell 0 rfl
    have d1 := hF.cell 1 rfl
    have d2 := hF.cell 2 rfl
    have d3 := hF.cell 3 rfl
    have d4 := hF.cell 4 rfl
    have d5 := hF.cell 5 rfl
    have d6 := hF.cell 6 rfl
    have d7 := hF.cell 7 rfl
    have d8 := hF.cell 8 rfl
    rw [H2.out]
    refine bodyPost_ret (v := .agg #[.int .i64 (R.tot : Int), .int .i64 e, .int .i64 (way : Int), .string sv, .slice b1 m1 d1', .slice b2 m2 d2', .int .i64 (R.s.k : Int), .int .i64 (R.t.k : Int), .int .i64 (R.s.left : Int)]) (by simp [results, Tryd.f19, go_sem, d0, d1, d2, d3, d4, d5, d6, d7, d8]) rfl ?_
    refine ⟨b1, m1, d1', b2, m2, d2', by rw [HSV.out], hbel, hra, hrb, fun x hx => ?_, fun x hx => ?_⟩
    · have := HGA'.out x hx; have := HB3.out.size; omega
    · have := HGB'.out x hx; have := HB3.out.size; omega

set_option maxRecDepth 100000 in
set_option maxHeartbeats 4000000 in
theorem copyRN {most : Int} {p F m way bulk : Nat} {A : Sa} {ps qs : List Pp} {zs tzs : List Int} {e : Int} {R : Cp} {w : World}
    (hZ : RdK w free none 1 A.sa A.sn A.sc (I3 zs)) (hP : Pipes w free A.pa A.pn A.pc ps) (hTZ : RdK w free none 1 A.ta A.tn A.tc (I3 tzs)) (hQ : Pipes w free A.qa A.qn A.qc qs) (hpn : A.pn ≤ 9) (hqn : A.qn ≤ 10)
    (hok : CpOk p ⟨limW most :: upto ps A.pn, srcOf A.dat.data.toList zs A.early A.broken, uptoK qs A.qn, freshT tzs A.room A.over, 0⟩) (hbk0 : A.bk = (bulk : Int)) (hbk : A.rd = true → 1 ≤ bulk ∧ bulk ≤ 1000000) (hm1 : 1 ≤ m) (hm2 : m ≤ 1000000) (hF : (srcOf A.dat.data.toList zs A.early A.broken).rem p < F)
    (hres : copyM ⟨A.wr, fun _ => 0⟩ ⟨A.rd, fun _ => 0⟩ bulk m F ⟨limW most :: upto ps A.pn, srcOf A.dat.data.toList zs A.early A.broken, uptoK qs A.qn, freshT tzs A.room A.over, 0⟩ = (R, e, (way : Int))) :
    Calls Tryd.prog 20 #[.agg #[.string A.dat, .slice A.sa A.sn A.sc, .bool A.early, .bool A.broken, .bool A.wr, .slice A.pa A.pn A.pc], .agg #[.slice A.ta A.tn A.tc, .int .i64 A.room, .bool A.over, .bool A.rd, .int .i64 A.bk, .slice A.qa A.qn A.qc], .int .i64 most, .int .i64 m] w (ToldP R.tot (cnE most R.tot e) way R.t R.s (sideTs R.l) (cntsOf R.l ++ cntsK R.k) w) := by
  obtain ⟨i0, hy0, hy1, hy2, hy3⟩ := pipeInfo
  obtain ⟨wq, hwq⟩ : ∃ wq, ((w.alloc (.cells #[.string A.dat, .slice A.sa A.sn A.sc, .bool A.early, .bool A.broken, .bool A.wr, .slice A.pa A.pn A.pc] 25)).alloc (.cells #[.slice A.ta A.tn A.tc, .int .i64 A.room, .bool A.over, .bool A.rd, .int .i64 A.bk, .slice A.qa A.qn A.qc] 29)).alloc (.cells #[.int .i64 0, .int .i64 0, .int .i64 0, .string ⟨#[]⟩, .slice none 0 0, .slice none 0 0, .int .i64 0, .int .i64 0, .int .i64 0] 37) = wq := ⟨_, rfl⟩
  have hbq : Below w.heap.size w wq := by rw [← hwq]; exact (((Below.refl _ _).alloc (Nat.le_refl _) _).alloc (by rw [sz_alloc]; omega) _).alloc (by rw [sz_alloc, sz_alloc]; omega) _
  have hqs : wq.heap.size = w.heap.size + 3 := by rw [← hwq, sz_alloc, sz_alloc, sz_alloc]
  have hb1 : Blk wq w.heap.size A.src := by rw [← hwq]; exact ((Blk.new w #[.string A.dat, .slice A.sa A.sn A.sc, .bool A.early, .bool A.broken, .bool A.wr, .slice A.pa A.pn A.pc] 25).alloc _).alloc _
  have hb2 : Blk wq (w.heap.size + 1) A.dst := by rw [← hwq]; have := Blk.new (w.alloc (.cells #[.string A.dat, .slice A.sa A.sn A.sc, .bool A.early, .bool A.broken, .bool A.wr, .slice A.pa A.pn A.pc] 25)) #[.slice A.ta A.tn A.tc, .int .i64 A.room, .bool A.over, .bool A.rd, .int .i64 A.bk, .slice A.qa A.qn A.qc] 29; rw [sz_alloc] at this; exact this.alloc _
  have hb3 : Blk wq (w.heap.size + 1 + 1) [.int .i64 0, .int .i64 0, .int .i64 0, .string ⟨#[]⟩, .slice none 0 0, .slice none 0 0, .int .i64 0, .int .i64 0, .int .i64 0] := by rw [← hwq]; have := Blk.new ((w.alloc (.cells #[.string A.dat, .slice A.sa A.sn A.sc, .bool A.early, .bool A.broken, .bool A.wr, .slice A.pa A.pn A.pc] 25)).alloc (.cells #[.slice A.ta A.tn A.tc, .int .i64 A.room, .bool A.over, .bool A.rd, .int .i64 A.bk, .slice A.qa A.qn A.qc] 29)) #[.int .i64 0, .int .i64 0, .int .i64 0, .string ⟨#[]⟩, .slice none 0 0, .slice none 0 0, .int .i64 0, .int .i64 0, .int .i64 0] 37; rw [sz_alloc, sz_alloc] at this; exact this
  obtain ⟨W1, hw1⟩ : ∃ W1, wq.alloc (.cells #[.string A.dat, .slice A.sa A.sn A.sc, .bool A.early, .bool A.broken, .bool A.wr, .slice A.pa A.pn A.pc] 25) = W1 := ⟨_, rfl⟩
  have h1s : W1.heap.size = wq.heap.size + 1 := by rw [← hw1, sz_alloc]
  have h1b : Below wq.heap.size wq W1 := by rw [← hw1]; exact (Below.refl _ _).alloc (Nat.le_refl _) _
  have h1x : Blk W1 wq.heap.size A.src := by rw [← hw1]; exact Blk.new wq #[.string A.dat, .slice A.sa A.sn A.sc, .bool A.early, .bool A.broken, .bool A.wr, .slice A.pa A.pn A.pc] 25
  have hbw1 : Below w.heap.size w W1 := hbq.trans (h1b.mono hbq.size)
  have g1 : Step (fun _ => False) w free W1 free := (Step.refl _ (fun _ _ => rfl)).calm hbw1
  have c0 := hb1.cell 0 rfl
  have c1 := hb1.cell 1 rfl
  have c2 := hb1.cell 2 rfl
  have c3 := hb1.cell 3 rfl
  have c4 := hb1.cell 4 rfl
  have c5 := hb1.cell 5 rfl
  have d5 := (hb1.below h1b).cell 5 rfl
  have hplen := hP.len
  have hcap := hP.1.1.le
  have HB2q := Lib.hid hb2
  have HB3q := Lib.hid hb3
  have H1X := Lib.hid h1x
  have HP1 := Lib.hid (hP.step g1)
  have HZ := Lib.hid hZ
  have HP := Lib.hid hP
  have HTZ := Lib.hid hTZ
  have HQ := Lib.hid hQ
  have HOK := Lib.hid hok
  have HBK0 := Lib.hid hbk0
  have HF := Lib.hid hF
  have HRES := Lib.hid hres
  have HBW1 := Lib.hid hbw1
  have HQS := Lib.hid hqs
  have H1S := Lib.hid h1s
  have HY := Lib.hid (And.intro hy0 (And.intro hy1 (And.intro hy2 hy3)))
  have HPL := Lib.hid hplen
  have H1B := Lib.hid h1b
  have HBQ := Lib.hid hbq
  clear hb1 hb2 hb3 h1x g1 hZ hP hTZ hQ hok hbk0 hF hres hbw1 hqs h1s h1b hbq hy0 hy1 hy2 hy3 hplen
  go_enter Tryd.func20, Tryd.ntmps20
  go_upto_region 3 with (fail)
  clear hwq hw1 c0 c1 c2 c3 c4 c5
  go_upto_region 4 with (at_builtin; go_must (refine wpList_append_row rfl _ _ 23 23 rfl 43 i0 zeroPipe 7 64 Tryd.underlying23 HY.out.1 HY.out.2.1 HY.out.2.2.1 HY.out.2.2.2 rfl rfl (Row.nil W1.heap.size _ _) A.pn (rowC ps) (Src.ofRd Tryd.underlying23 HP1.out.1.1 (rowC_one ps)) (by unfold maxLen; omega) (by omega) (Nat.le_refl _) ?_; intro a' c' W2 hrow hgr hbk9; rw [Nat.zero_add, List.nil_append] at hrow; have HW2 := Lib.hid hrow; have HG2 := Lib.hid hgr; have HK2 := Lib.hid hbk9; clear hrow hgr hbk9))
  have hb2 := below_of_grown HG2.out
  have hx2 := H1X.out.below hb2
  have hlt2 : wq.heap.size < W2.heap.size := hx2.lt
  have HB12 := Lib.hid hb2
  have HX2 := Lib.hid hx2
  clear hb2 hx2 d5
  go_upto_region 5 with (at_builtin; go_must (refine wpList_append_row (B := W1.heap.size) rfl _ _ 23 23 rfl 43 i0 zeroPipe 7 64 Tryd.underlying23 HY.out.1 HY.out.2.1 HY.out.2.2.1 HY.out.2.2.2 rfl rfl (HW2.out.alloc _) 1 (newPp 3 most).cells (Src.ofRd Tryd.underlying23 (Rd.onePipe W2 3 most) (cells_one _)) (by unfold maxLen; omega) (by omega) (by have := HB12.out.size; simp; omega) ?_; intro a2 c2 W3 hrow hgr hbk9; have HW3 := Lib.hid hrow; have HG3 := Lib.hid hgr; have HK3 := Lib.hid hbk9; clear hrow hgr hbk9; have hx3 := (HX2.out.alloc (.cells #[.int .i64 3, .int .i64 most, .slice none 0 0, .int .i64 0, .bool false, .bool false, .int .i64 0] 43)).grown HG3.out (fun e9 => by have h7 := (HW2.out.lt _ e9).1; have h8 := H1S.out; omega); have HX3 := Lib.hid hx3; have s5 := hx3.cell 5 rfl; have sf5 := hx3.free 5 (by simp [Sa.src]); clear hx3))
  have s1 := H1S.out
  have s0 := HQS.out
  have hb23 : Below W1.heap.size (W2.alloc (.cells #[.int .i64 3, .int .i64 most, .slice none 0 0, .int .i64 0, .bool false, .bool false, .int .i64 0] 43)) W3 := below_of_grownAt HG3.out (fun b hb => (HW2.out.lt b hb).1) (by have := HB12.out.size; rw [sz_alloc]; omega)
  have hb13 : Below W1.heap.size W1 W3 := (HB12.out.alloc HB12.out.size _).trans hb23
  have hbq3 : Below wq.heap.size wq W3 := H1B.out.trans (hb13.mono H1B.out.size)
  obtain ⟨W4, hw4⟩ : ∃ W4, W3.setCell ⟨wq.heap.size, 5, none⟩ (.slice a2 (A.pn + 1) c2) = W4 := ⟨_, rfl⟩
  have hbq4 : Below wq.heap.size wq W4 := by rw [← hw4]; exact hbq3.setCell (p := ⟨wq.heap.size, 5, none⟩) (Nat.le_refl _) _
  have hx4 : Blk W4 wq.heap.size [.string A.dat, .slice A.sa A.sn A.sc, .bool A.early, .bool A.broken, .bool A.wr, .slice a2 (A.pn + 1) c2] := by rw [← hw4]; exact HX3.out.set (j := 5) _
  have hrow4 : Row W1.heap.size W4 7 a2 (A.pn + 1) c2 (rowC ps ++ (newPp 3 most).cells) := by
    rw [← hw4]
    exact HW3.out.kept (grownBy_setAt _ ⟨wq.heap.size, 5, none⟩ _) (.inl (fun e9 => by have h7 : W1.heap.size ≤ wq.heap.size := (HW3.out.lt _ e9).1; omega))
  have hbw4 : Below w.heap.size w W4 := HBQ.out.trans (hbq4.mono HBQ.out.size)
  have hd4 := HB2q.out.below hbq4
  have hz4 := HB3q.out.below hbq4
  have g4 : Step (fun _ => False) w free W4 free := (Step.refl _ (fun _ _ => rfl)).calm hbw4
  have hP4 := HP.out.more hbw4 hrow4
  have hfr : (newPp 3 most).fresh = limW most := rfl
  have hup : upto (ps ++ [newPp 3 most]) (A.pn + 1) = limW most :: upto ps A.pn := by rw [upto_more HPL.out, hfr]
  have hcall := copyR (A := { A with pa := a2, pn := A.pn + 1, pc := c2 }) (ps := ps ++ [newPp 3 most]) (qs := qs) (zs := zs) (tzs := tzs) (p := p) (F := F) (m := m) (way := way) (bulk := bulk) (e := e) (R := R) (HZ.out.step g4 (fun _ h => by cases h)) hP4 (HTZ.out.step g4 (fun _ h => by cases h)) (HQ.out.step g4) (by show A.pn + 1 ≤ 10; omega) hqn (by show CpOk p ⟨upto (ps ++ [newPp 3 most]) (A.pn + 1), _, _, _, _⟩; rw [hup]; exact HOK.out) HBK0.out hbk hm1 hm2 HF.out (by show copyM _ _ bulk m F ⟨upto (ps ++ [newPp 3 most]) (A.pn + 1), _, _, _, _⟩ = _; rw [hup]; exact HRES.out)
  have HCALL := Lib.hid hcall
  rw [hw4]
  have HD4 := Lib.hid hd4
  have HZ4 := Lib.hid hz4
  have HBW4 := Lib.hid hbw4
  have c0 := hx4.cell 0 rfl
  have c1 := hx4.cell 1 rfl
  have c2' := hx4.cell 2 rfl
  have c3 := hx4.cell 3 rfl
  have c4 := hx4.cell 4 rfl
  have c5 := hx4.cell 5 rfl
  have d0 := hd4.cell 0 rfl
  have d1 := hd4.cell 1 rfl
  have d2 := hd4.cell 2 rfl
  have d3 := hd4.cell 3 rfl
  have d4 := hd4.cell 4 rfl
  have d5 := hd4.cell 5 rfl
  clear hb23 hb13 hbq3 hw4 hbq4 hx4 hrow4 hbw4 hd4 hz4 g4 hP4 hfr hup hcall hlt2 HX3 HX2 HW3 HW2 HG2 HG3 HK2 HK3 s0 s1
  go_wp2_with fail
  clear c0 c1 c2' c3 c4 c5 d0 d1 d2 d3 d4 d5
  refine HCALL.out.mono ?_
  rintro e4 w4 ⟨b1, m1, d1', b2, m2, d2', rfl, hb4, hrA, hrB, hgA, hgB⟩
  have hz := HZ4.out.below hb4
  have y0 := hz.cell 0 rfl
  have z0 := hz.free 0 (by simp)
  have y1 := hz.cell 1 rfl
  have z1 := hz.free 1 (by simp)
  have y2 := hz.cell 2 rfl
  have z2 := hz.free 2 (by simp)
  have y3 := hz.cell 3 rfl
  have z3 := hz.free 3 (by simp)
  have y4 := hz.cell 4 rfl
  have z4 := hz.free 4 (by simp)
  have y5 := hz.cell 5 rfl
  have z5 := hz.free 5 (by simp)
  have y6 := hz.cell 6 rfl
  have z6 := hz.free 6 (by simp)
  have y7 := hz.cell 7 rfl
  have z7 := hz.free 7 (by simp)
  have y8 := hz.cell 8 rfl
  have z8 := hz.free 8 (by simp)
  have HZ := Lib.hid hz
  have HB4 := Lib.hid (HBW4.out.trans (hb4.mono HBW4.out.size))
  have HB3 := Lib.hid HBW4.out
  have HLT := Lib.hid HZ4.out.lt
  have HGA' := Lib.hid hgA
  have HGB' := Lib.hid hgB
  have HRA := Lib.hid hrA
  have HRB := Lib.hid hrB
  obtain ⟨sv, hsv⟩ : ∃ sv, hasS R.t = Value.string sv := ⟨_, rfl⟩
  rw [hsv]
  have HSV := Lib.hid hsv
  clear hz hb4 hrA hrB hsv hgA hgB
  have hlt3 : w.heap.size + 1 + 1 < w4.heap.size := World.block_lt_of_cell? _ _ y0
  have hcase : ((R.tot : Int) = most ∧ cnE most R.tot e = 0) ∨ (¬ (R.tot : Int) = most ∧ (R.tot : Int) < most ∧ e = 0 ∧ cnE most R.tot e = 364) ∨ (¬ (R.tot : Int) = most ∧ (R.tot : Int) < most ∧ ¬ e = 0 ∧ cnE most R.tot e = e) ∨ (¬ (R.tot : Int) = most ∧ ¬ (R.tot : Int) < most ∧ cnE most R.tot e = e) := by
    unfold cnE
    by_cases h1 : (R.tot : Int) = most
    · left; exact ⟨h1, by rw [if_pos h1]⟩
    · right
      rw [if_neg h1]
      by_cases h2 : (R.tot : Int) < most
      · by_cases h3 : e = 0
        · left; exact ⟨h1, h2, h3, by rw [if_pos ⟨h2, h3⟩]⟩
        · right; left; exact ⟨h1, h2, h3, by rw [if_neg (fun h => h3 h.2)]⟩
      · right; right; exact ⟨h1, h2, by rw [if_neg (fun h => h2 h.1)]⟩
  rcases hcase with ⟨h1, h2⟩ | ⟨h1, h2, h3, h4⟩ | ⟨h1, h2, h3, h4⟩ | ⟨h1, h2, h3⟩
  · have e1 : ((R.tot : Int) == most) = true := by simpa using h1
    have H2 := Lib.hid h2
    clear h1 h2
    go_wp2_with fail
    clear y0 y1 y2 y3 y4 y5 y6 y7 y8 z0 z1 z2 z3 z4 z5 z6 z7 z8
    generalize h9 : World.alloc _ _ = w9
    obtain ⟨hF, hbel, hra, hrb⟩ := cnEnd HZ.out HB4.out (by omega) HLT.out HRA.out HRB.out HGA'.out HGB'.out _ _ _ _ _ _ _ _ h9
    clear h9
    have d0 := hF.cell 0 rfl
    have d1 := hF.cell 1 rfl
    have d2 := hF.cell 2 rfl
    have d3 := hF.cell 3 rfl
    have d4 := hF.cell 4 rfl
    have d5 := hF.cell 5 rfl
    have d6 := hF.cell 6 rfl
    have d7 := hF.cell 7 rfl
    have d8 := hF.cell 8 rfl
    rw [H2.out]
    refine bodyPost_ret (v := .agg #[.int .i64 (R.tot : Int), .int .i64 0, .int .i64 (way : Int), .string sv, .slice b1 m1 d1', .slice b2 m2 d2', .int .i64 (R.s.k : Int), .int .i64 (R.t.k : Int), .int .i64 (R.s.left : Int)]) (by simp [results, Tryd.f20, go_sem, d0, d1, d2, d3, d4, d5, d6, d7, d8]) rfl ?_
    refine ⟨b1, m1, d1', b2, m2, d2', by rw [HSV.out], hbel, hra, hrb, fun x hx => ?_, fun x hx => ?_⟩
    · have := HGA'.out x hx; have := HB3.out.size; omega
    · have := HGB'.out x hx; have := HB3.out.size; omega
  · have e1 : ((R.tot : Int) == most) = false := by simpa using h1
    have e2 : decide ((R.tot : Int) < most) = true := by simpa using h2
    subst h3
    have H2 := Lib.hid h4
    clear h1 h2 h4
    go_wp2_with fail
    clear y0 y1 y2 y3 y4 y5 y6 y7 y8 z0 z1 z2 z3 z4 z5 z6 z7 z8
    generalize h9 : World.alloc _ _ = w9
    obtain ⟨hF, hbel, hra, hrb⟩ := cnEnd HZ.out HB4.out (by omega) HLT.out HRA.out HRB.out HGA'.out HGB'.out _ _ _ _ _ _ _ _ h9
    clear h9
    have d0 := hF.cell 0 rfl
    have d1 := hF.cell 1 rfl
    have d2 := hF.cell 2 rfl
    have d3 := hF.cell 3 rfl
    have d4 := hF.cell 4 rfl
    have d5 := hF.cell 5 rfl
    have d6 := hF.cell 6 rfl
    have d7 := hF.cell 7 rfl
    have d8 := hF.cell 8 rfl
    rw [H2.out]
    refine bodyPost_ret (v := .agg #[.int .i64 (R.tot : Int), .int .i64 364, .int .i64 (way : Int), .string sv, .slice b1 m1 d1', .slice b2 m2 d2', .int .i64 (R.s.k : Int), .int .i64 (R.t.k : Int), .int .i64 (R.s.left : Int)]) (by simp [results, Tryd.f20, go_sem, d0, d1, d2, d3, d4, d5, d6, d7, d8]) rfl ?_
    refine ⟨b1, m1, d1', b2, m2, d2', by rw [HSV.out], hbel, hra, hrb, fun x hx => ?_, fun x hx => ?_⟩
    · have := HGA'.out x hx; have := HB3.out.size; omega
    · have := HGB'.out x hx; have := HB3.out.size; omega
  · have e1 : ((R.tot : Int) == most) = false := by simpa using h1
    have e2 : decide ((R.tot : Int) < most) = true := by simpa using h2
    have e3 : (e == 0) = false := by simpa using h3
    have H2 := Lib.hid h4
    clear h1 h2 h3 h4
    go_wp2_with fail
    clear y0 y1 y2 y3 y4 y5 y6 y7 y8 z0 z1 z2 z3 z4 z5 z6 z7 z8
    generalize h9 : World.alloc _ _ = w9
    obtain ⟨hF, hbel, hra, hrb⟩ := cnEnd HZ.out HB4.out (by omega) HLT.out HRA.out HRB.out HGA'.out HGB'.out _ _ _ _ _ _ _ _ h9
    clear h9
    have d0 := hF.cell 0 rfl
    have d1 := hF.cell 1 rfl
    have d2 := hF.cell 2 rfl
    have d3 := hF.cell 3 rfl
    have d4 := hF.cell 4 rfl
    have d5 := hF.cell 5 rfl
    have d6 := hF.cell 6 rfl
    have d7 := hF.cell 7 rfl
    have d8 := hF.cell 8 rfl
    rw [H2.out]
    refine bodyPost_ret (v := .agg #[.int .i64 (R.tot : Int), .int .i64 e, .int .i64 (way : Int), .string sv, .slice b1 m1 d1', .slice b2 m2 d2', .int .i64 (R.s.k : Int), .int .i64 (R.t.k : Int), .int .i64 (R.s.left : Int)]) (by simp [results, Tryd.f20, go_sem, d0, d1, d2, d3, d4, d5, d6, d7, d8]) rfl ?_
    refine ⟨b1, m1, d1', b2, m2, d2', by rw [HSV.out], hbel, hra, hrb, fun x hx => ?_, fun x hx => ?_⟩
    · have := HGA'.out x hx; have := HB3.out.size; omega
    · have := HGB'.out x hx; have := HB3.out.size; omega
  · have e1 : ((R.tot : Int) == most) = false := by simpa using h1
    have e2 : decide ((R.tot : Int) < most) = false := by simpa using h2
    have H2 := Lib.hid h3
    clear h1 h2 h3
    go_wp2_with fail
    clear y0 y1 y2 y3 y4 y5 y6 y7 y8 z0 z1 z2 z3 z4 z5 z6 z7 z8
    generalize h9 : World.alloc _ _ = w9
    obtain ⟨hF, hbel, hra, hrb⟩ := cnEnd HZ.out HB4.out (by omega) HLT.out HRA.out HRB.out HGA'.out HGB'.out _ _ _ _ _ _ _ _ h9
    clear h9
    have d0 := hF.cell 0 rfl
    have d1 := hF.cell 1 rfl
    have d2 := hF.cell 2 rfl
    have d3 := hF.cell 3 rfl
    have d4 := hF.cell 4 rfl
    have d5 := hF.cell 5 rfl
    have d6 := hF.cell 6 rfl
    have d7 := hF.cell 7 rfl
    have d8 := hF.cell 8 rfl
    rw [H2.out]
    refine bodyPost_ret (v := .agg #[.int .i64 (R.tot : Int), .int .i64 e, .int .i64 (way : Int), .string sv, .slice b1 m1 d1', .slice b2 m2 d2', .int .i64 (R.s.k : Int), .int .i64 (R.t.k : Int), .int .i64 (R.s.left : Int)]) (by simp [results, Tryd.f20, go_sem, d0, d1, d2, d3, d4, d5, d6, d7, d8]) rfl ?_
    refine ⟨b1, m1, d1', b2, m2, d2', by rw [HSV.out], hbel, hra, hrb, fun x hx => ?_, fun x hx => ?_⟩
    · have := HGA'.out x hx; have := HB3.out.size; omega
    · have := HGB'.out x hx; have := HB3.out.size; omega

end Go.Proofs.YtigfgdefgnahpaaDoor

/-
  The walk of PipeCounts. Not a statement of the seat.
-/
namespace Go.Proofs.YtigfgdefgnahpaaDoor
open Go.RowKit

section
variable {A : Sa} {zs tzs : List Int} {ps qs : List Pp} {eb m : Nat} {most : Int} {w : World}
def resL (A : Sa) (zs tzs : List Int) (ps qs : List Pp) (most : Int) (m : Nat) : Cp × Int × Int := copyM ⟨A.wr, fun _ => 0⟩ ⟨A.rd, fun _ => 0⟩ A.bk.toNat m 4400001 ⟨limW most :: upto ps ps.length, srcOf A.dat.data.toList zs A.early A.broken, uptoK qs qs.length, freshT tzs A.room A.over, 0⟩
theorem limOk {p : Nat} {c : Cp} (h : CpOk p c) (hm : -9223372036854775808 ≤ most ∧ most ≤ 9223372036854775807) : CpOk p { c with l := limW most :: c.l } := by
  refine ⟨h.s, h.some, fun x hx => ?_, h.t, h.has, h.tot, h.tk, h.k, h.kk⟩
  rcases List.mem_cons.1 hx with rfl | hx
  · exact ⟨(show (freshT [] 0 false).ok from ⟨(fun z hz => by cases hz), by decide, by decide, by decide, fun _ => by decide⟩), Nat.zero_le _, Nat.zero_le _, Int.le_refl _, (by show (0 : Int) ≤ ((c.s.pos : Nat) : Int); omega), hm.1, hm.2⟩
  · exact h.l x hx
theorem copyNNT (hA : ArgsAt w A zs tzs ps qs) (hL : Laid eb w) (h : FitA A.dat.size zs ps) (hs : sinkFit tzs A.room A.rd A.bk qs = true) (hmo : -9223372036854775808 ≤ most ∧ most ≤ 9223372036854775807) (hm1 : 1 ≤ m) (hm2 : m ≤ 65535) {R : Cp × Int × Int} (hR : resL A zs tzs ps qs most m = R) :
    Calls Tryd.prog 19 #[.agg A.src.toArray, .agg A.dst.toArray, .int .i64 most, .int .i64 m] w (TP R.1.tot (cnE most R.1.tot R.2.1) R.2.2.toNat (bytesS R.1.t) ((sideTs R.1.l).map bytesS) (cntsOf R.1.l ++ cntsK R.1.k) R.1.s.k R.1.t.k R.1.s.left w) := by
  subst hR
  have hd : A.dat.data.toList.length = A.dat.size := Array.length_toList
  have h' : FitA A.dat.data.toList.length zs ps := by rw [hd]; exact h
  obtain ⟨p, k1, k2, k3, k4, k5, k6⟩ := fit_ok (over := A.over) A.early A.broken h' hs
  have hpl := hA.p.len
  have hql := hA.q.len
  have hbk := bk_of h hs
  have k1' := limOk k1 hmo
  have hw := copyM_way ⟨A.wr, fun _ => 0⟩ ⟨A.rd, fun _ => 0⟩ A.bk.toNat m 4400001 ⟨limW most :: upto ps ps.length, srcOf A.dat.data.toList zs A.early A.broken, uptoK qs qs.length, freshT tzs A.room A.over, 0⟩
  have := copyNN (most := most) (eb := eb) (p := p) (F := 4400001) (m := m) (bulk := A.bk.toNat) (way := (resL A zs tzs ps qs most m).2.2.toNat) (e := (resL A zs tzs ps qs most m).2.1) (R := (resL A zs tzs ps qs most m).1) (wrt := A.wr) (trd := A.rd) hA.z hA.p hA.t hA.q k3 (by omega) (by omega)
    (by rw [← hpl, ← hql]; exact k1') (fun hh => by have := k6 hh; omega) hm1 (by omega) hL.eof hL.et k2 (by rw [← hpl, ← hql]; unfold resL at *; rw [← hw])
  rw [← hbk] at this
  exact this.mono (fun e' w' ht => toldS ht)
theorem copyRNT (hA : ArgsAt w A zs tzs ps qs) (h : FitA A.dat.size zs ps) (hs : sinkFit tzs A.room A.rd A.bk qs = true) (hmo : -9223372036854775808 ≤ most ∧ most ≤ 9223372036854775807) (hm1 : 1 ≤ m) (hm2 : m ≤ 65535) {R : Cp × Int × Int} (hR : resL A zs tzs ps qs most m = R) :
    Calls Tryd.prog 20 #[.agg A.src.toArray, .agg A.dst.toArray, .int .i64 most, .int .i64 m] w (TP R.1.tot (cnE most R.1.tot R.2.1) R.2.2.toNat (bytesS R.1.t) ((sideTs R.1.l).map bytesS) (cntsOf R.1.l ++ cntsK R.1.k) R.1.s.k R.1.t.k R.1.s.left w) := by
  subst hR
  have hd : A.dat.data.toList.length = A.dat.size := Array.length_toList
  have h' : FitA A.dat.data.toList.length zs ps := by rw [hd]; exact h
  obtain ⟨p, k1, k2, k3, k4, k5, k6⟩ := fit_ok (over := A.over) A.early A.broken h' hs
  have hpl := hA.p.len
  have hql := hA.q.len
  have hbk := bk_of h hs
  have k1' := limOk k1 hmo
  have hw := copyM_way ⟨A.wr, fun _ => 0⟩ ⟨A.rd, fun _ => 0⟩ A.bk.toNat m 4400001 ⟨limW most :: upto ps ps.length, srcOf A.dat.data.toList zs A.early A.broken, uptoK qs qs.length, freshT tzs A.room A.over, 0⟩
  have := copyRN (most := most) (A := A) (p := p) (F := 4400001) (m := m) (bulk := A.bk.toNat) (way := (resL A zs tzs ps qs most m).2.2.toNat) (e := (resL A zs tzs ps qs most m).2.1) (R := (resL A zs tzs ps qs most m).1) hA.z hA.p hA.t hA.q (by omega) (by omega)
    (by rw [← hpl, ← hql]; exact k1') hbk (fun hh => by have := k6 hh; omega) hm1 (by omega) k2 (by rw [← hpl, ← hql]; unfold resL at *; rw [← hw])
  exact this.mono (fun e' w' ht => toldS ht)
theorem resL_le (h : FitA A.dat.size zs ps) (hs : sinkFit tzs A.room A.rd A.bk qs = true) (hmo : -9223372036854775808 ≤ most ∧ most ≤ 9223372036854775807) (hm1 : 1 ≤ m) (h0 : 0 ≤ most) : ((resL A zs tzs ps qs most m).1.tot : Int) ≤ most := by
  have hd : A.dat.data.toList.length = A.dat.size := Array.length_toList
  have h' : FitA A.dat.data.toList.length zs ps := by rw [hd]; exact h
  obtain ⟨p, k1, k2, k3, k4, k5, k6⟩ := fit_ok (over := A.over) A.early A.broken h' hs
  exact copyM_lim (limOk k1 hmo) ⟨limW most, _, rfl, rfl, h0, by show ((0 : Nat) : Int) + most ≤ most; omega⟩ hm1 (fun hh => by have := k6 hh; omega)
end

/-- the operation at a place, laid out -/
def nthO : List Oper → Nat → Option Oper
  | [], _ => none
  | o :: _, 0 => some o
  | _ :: l, n + 1 => nthO l n
theorem nthO_at : ∀ (l : List Oper) (i : Nat), l.toArray[i]? = nthO l i
  | [], _ => by simp [nthO]
  | o :: _, 0 => by simp [nthO]
  | _ :: l, n + 1 => by
    have := nthO_at l n
    simp only [List.getElem?_toArray] at this ⊢
    simpa [nthO] using this
section
variable {P : Program} {md : Region.Mode} {l : List Oper} {Q : Exit → Act → World → Prop} {S : World → Prop}
theorem takeN {i : Nat} {oi : Oper} {v : Value} {fuel : Nat} {listed : Array Bool} {a : Act} {w : World} (hi : nthO l i = some oi)
    (hs : Region.noSelect l.toArray = true) (hf : Region.free md l.toArray listed i = true) (hr : (Region.ready md l.toArray listed).contains i = true)
    (hQ : ∀ c a w, Q (.panic c) (a.put oi.dst v) w → Q (.panic c) a w) (hy : YieldsIf P l.toArray S oi v a) (hS : S w)
    (h : wpAnyH P md l.toArray Q S fuel (listed.setIfInBounds i true) (a.put oi.dst v) w) : wpAnyH P md l.toArray Q S (fuel + 1) listed a w :=
  wpAnyH_take ((nthO_at l i).trans hi) hs hf hr hQ hy hS h
theorem consN {fuel : Nat} {listed : Array Bool} {a : Act} {w : World} {i : Nat} {o : Oper} {rs : List Nat} (ho : nthO l i = some o)
    (h : ∀ K' : Act → World → Prop, Shut (∀ a w, S w → (S w → wpAnyH P md l.toArray Q S fuel (listed.setIfInBounds i true) a w) → K' a w) → if Region.wanted o (yielded l.toArray a.tmps) = true then Oper.wp P o a w K' Q else K' (a.put o.dst undef) w)
    (hs : AllReadyH P md l.toArray Q S fuel listed a w rs) : AllReadyH P md l.toArray Q S fuel listed a w (i :: rs) :=
  AllReadyH.cons ((nthO_at l i).trans ho) h hs
end

set_option maxRecDepth 100000 in
set_option maxHeartbeats 8000000 in
theorem countsT {A : Sa} {zs tzs : List Int} {ps qs : List Pp} {eb : Nat} {most n : Int} {w : World} (hmo : -9223372036854775808 ≤ most ∧ most ≤ 9223372036854775807) (hA : ArgsAt w A zs tzs ps qs) (hL : Laid eb w) (hn : ∀ x ∈ ps, -9223372036854775808 ≤ x.n ∧ x.n ≤ 9223372036854775807) (hl : ∀ x ∈ ps, x.zs.length = x.sn) :
    Calls Tryd.prog 8 #[.agg #[.string A.dat, .slice A.sa A.sn A.sc, .bool A.early, .bool A.broken, .bool A.wr, .slice A.pa A.pn A.pc], .agg #[.slice A.ta A.tn A.tc, .int .i64 A.room, .bool A.over, .bool A.rd, .int .i64 A.bk, .slice A.qa A.qn A.qc], .int .i64 most, .int .i64 n] w (RV w (.bool true)) := by
  obtain ⟨wq, hwq⟩ : ∃ wq, (w.alloc (.cells #[.string A.dat, .slice A.sa A.sn A.sc, .bool A.early, .bool A.broken, .bool A.wr, .slice A.pa A.pn A.pc] 25)).alloc (.cells #[.slice A.ta A.tn A.tc, .int .i64 A.room, .bool A.over, .bool A.rd, .int .i64 A.bk, .slice A.qa A.qn A.qc] 29) = wq := ⟨_, rfl⟩
  obtain ⟨hbw, hb1, hb2⟩ := twoBoxes _ _ _ _ _ _ _ _ _ _ _ _ _ _ _ hwq
  have hbox : Boxed w.heap.size (w.heap.size + 1) A wq := wayKeep hb1 hb2
  have hAq := hA.below hbw
  have hLq := hL.below hbw
  have hkeep : ∀ wx : World, Below wq.heap.size wq wx → Boxed w.heap.size (w.heap.size + 1) A wx := fun wx hx => hbox.below hx
  have hawk : ∀ wx : World, Below wq.heap.size wq wx → Calls Tryd.prog 12 #[] wx (RV wx (.bool true)) := fun wx hx => awakeT (hLq.below hx)
  have HKEEP := Lib.hid hkeep
  have HAWK := Lib.hid hawk
  have HA := Lib.hid hAq
  have HLQ := Lib.hid hLq
  have HBW := Lib.hid hbw
  have HWQ := Lib.hid hwq
  have HNN := Lib.hid (And.intro hn hl)
  have HMO := Lib.hid hmo
  obtain ⟨⟨c0, c1, c2, c3, c4, c5⟩, ⟨d0, d1, d2, d3, d4, d5⟩⟩ := hbox
  clear hA hbw hb1 hb2 hL hn hl hAq hLq hkeep hawk hwq hmo
  cases hf : fitB A zs tzs ps qs
  · have HF := Lib.hid hf
    clear hf
    go_enter Tryd.func8, Tryd.ntmps8
    go_wp2_with fail
    rw [HWQ.out]
    refine (fitT HA.out HF.out).mono ?_
    rintro e w1 ⟨rfl, hb⟩
    have HB := Lib.hid hb
    clear hb
    go_wp2_with fail
    refine (HAWK.out _ HB.out).mono ?_
    rintro e w2 ⟨rfl, hb⟩
    have HB2 := Lib.hid (HB.out.trans (hb.mono HB.out.size))
    clear hb
    go_wp2
    go_ret
    exact ⟨rfl, HBW.out.trans (HB2.out.mono HBW.out.size)⟩
  · have HF := Lib.hid hf
    have hf2 : srcFit A.dat.size zs ps = true ∧ sinkFit tzs A.room A.rd A.bk qs = true := by unfold fitB at hf; simpa using hf
    have hfa : FitA A.dat.size zs ps := ⟨hf2.1, HNN.out.1, HNN.out.2⟩
    have hsz := sizeM_le n
    obtain ⟨m, hm⟩ : ∃ m, sizeM n = m := ⟨_, rfl⟩
    rw [hm] at hsz
    have hsT : ∀ wx : World, Calls Tryd.prog 15 #[.int .i64 n] wx (fun e w' => e = .returned (.int .i64 (m : Nat)) ∧ w' = wx) := fun wx => by rw [← hm]; exact sizeT n wx
    obtain ⟨R, hR⟩ : ∃ R, resL A zs tzs ps qs most m = R := ⟨_, rfl⟩
    obtain ⟨tot, htot⟩ : ∃ tot, R.1.tot = tot := ⟨_, rfl⟩
    obtain ⟨ex, hex⟩ : ∃ ex, cnE most tot R.2.1 = ex := ⟨_, rfl⟩
    obtain ⟨way, hway⟩ : ∃ way, R.2.2.toNat = way := ⟨_, rfl⟩
    obtain ⟨d, hd⟩ : ∃ d, bytesS R.1.t = d := ⟨_, rfl⟩
    obtain ⟨ss, hss⟩ : ∃ ss, (sideTs R.1.l).map bytesS = ss := ⟨_, rfl⟩
    obtain ⟨cs, hcs⟩ : ∃ cs, cntsOf R.1.l ++ cntsK R.1.k = cs := ⟨_, rfl⟩
    obtain ⟨k, hk⟩ : ∃ k, R.1.s.k = k := ⟨_, rfl⟩
    obtain ⟨wk, hwk⟩ : ∃ wk, R.1.t.k = wk := ⟨_, rfl⟩
    obtain ⟨lf, hlf⟩ : ∃ lf, R.1.s.left = lf := ⟨_, rfl⟩
    have h19 : ∀ wx : World, Below wq.heap.size wq wx → Calls Tryd.prog 19 #[.agg #[.string A.dat, .slice A.sa A.sn A.sc, .bool A.early, .bool A.broken, .bool A.wr, .slice A.pa A.pn A.pc], .agg #[.slice A.ta A.tn A.tc, .int .i64 A.room, .bool A.over, .bool A.rd, .int .i64 A.bk, .slice A.qa A.qn A.qc], .int .i64 most, .int .i64 m] wx (TP tot ex way d ss cs k wk lf wx) := fun wx hx => by
      have := copyNNT (HA.out.below hx) (HLQ.out.below hx) hfa hf2.2 HMO.out hsz.1 hsz.2 hR
      rw [htot, hex, hway, hd, hss, hcs, hk, hwk, hlf] at this
      exact this
    have h20 : ∀ wx : World, Below wq.heap.size wq wx → Calls Tryd.prog 20 #[.agg #[.string A.dat, .slice A.sa A.sn A.sc, .bool A.early, .bool A.broken, .bool A.wr, .slice A.pa A.pn A.pc], .agg #[.slice A.ta A.tn A.tc, .int .i64 A.room, .bool A.over, .bool A.rd, .int .i64 A.bk, .slice A.qa A.qn A.qc], .int .i64 most, .int .i64 m] wx (TP tot ex way d ss cs k wk lf wx) := fun wx hx => by
      have := copyRNT (HA.out.below hx) hfa hf2.2 HMO.out hsz.1 hsz.2 hR
      rw [htot, hex, hway, hd, hss, hcs, hk, hwk, hlf] at this
      exact this
    have hle : 0 ≤ most → (tot : Int) ≤ most := fun h0 => by
      have := resL_le (m := m) hfa hf2.2 HMO.out hsz.1 h0
      rw [hR, htot] at this
      exact this
    have HST := Lib.hid hsT
    have H19 := Lib.hid h19
    have H20 := Lib.hid h20
    have HLE := Lib.hid hle
    clear hf hf2 hfa hm hsT h19 h20 hle hR htot hex hway hd hss hcs hk hwk hlf
    clear R
    go_enter Tryd.func8, Tryd.ntmps8
    go_wp2_with fail
    rw [HWQ.out]
    refine (fitT HA.out HF.out).mono ?_
    rintro e w1 ⟨rfl, hb⟩
    have HB1 := Lib.hid hb
    have hkb : ∀ wx : World, Below w1.heap.size w1 wx → Boxed w.heap.size (w.heap.size + 1) A wx := fun wx hx => HKEEP.out wx (hb.trans (hx.mono hb.size))
    have HKB := Lib.hid hkb
    have HC19D := Lib.hid (H19.out w1.drew (hb.trans ((Below.refl _ _).drew.mono hb.size)))
    have HC19Z := Lib.hid (H19.out ((w1.alloc (.cells #[.int .i64 0, .int .i64 0, .int .i64 0, .string ⟨#[]⟩, .slice none 0 0, .slice none 0 0, .int .i64 0, .int .i64 0, .int .i64 0] 37)).drew) (hb.trans (((Below.refl _ w1).alloc (Nat.le_refl _) (.cells #[.int .i64 0, .int .i64 0, .int .i64 0, .string ⟨#[]⟩, .slice none 0 0, .slice none 0 0, .int .i64 0, .int .i64 0, .int .i64 0] 37)).drew.mono hb.size)))
    clear hb hkb c0 c1 c2 c3 c4 c5 d0 d1 d2 d3 d4 d5
    unfold Boxed at HKB
    go_wp2_with fail
    go_cut [9] from 10 (fun s9 wx => RecAt tot ex way d ss cs k wk lf w1 s9 wx)
    case first =>
      go_region_held3 (fun wx : World => (wx.cell? ⟨w.heap.size, 0, none⟩ = some (.string A.dat) ∧ wx.cell? ⟨w.heap.size, 1, none⟩ = some (.slice A.sa A.sn A.sc) ∧ wx.cell? ⟨w.heap.size, 2, none⟩ = some (.bool A.early) ∧ wx.cell? ⟨w.heap.size, 3, none⟩ = some (.bool A.broken) ∧ wx.cell? ⟨w.heap.size, 4, none⟩ = some (.bool A.wr) ∧ wx.cell? ⟨w.heap.size, 5, none⟩ = some (.slice A.pa A.pn A.pc)) ∧
        (wx.cell? ⟨w.heap.size + 1, 0, none⟩ = some (.slice A.ta A.tn A.tc) ∧ wx.cell? ⟨w.heap.size + 1, 1, none⟩ = some (.int .i64 A.room) ∧ wx.cell? ⟨w.heap.size + 1, 2, none⟩ = some (.bool A.over) ∧ wx.cell? ⟨w.heap.size + 1, 3, none⟩ = some (.bool A.rd) ∧ wx.cell? ⟨w.heap.size + 1, 4, none⟩ = some (.int .i64 A.bk) ∧ wx.cell? ⟨w.heap.size + 1, 5, none⟩ = some (.slice A.qa A.qn A.qc)))
        (first | (refine HKB.out _ ?_; repeat (first | refine Below.setCell ?_ (by first | (simp; done) | (simp; omega) | (have := HBA.out.size; simp; omega)) _ | refine Below.alloc ?_ (by first | (simp; done) | (simp; omega) | (have := HBA.out.size; simp; omega)) _ | refine Below.drew ?_ | exact HBA.out | exact Below.refl _ _)))
        (first
          | (go_simp; go_at_call 15; refine (HST.out _).mono ?_; rintro e15 w15 ⟨rfl, rfl⟩)
          | (go_simp; go_at_call 19; refine (HC19D.out).mono ?_; rintro eA wA ⟨a1, n1, c1, a2, n2, c2, rfl, hbx, hr1, hr2, hf1, hf2⟩; have HBA := Lib.hid ((Below.refl w1.heap.size w1).drew.trans hbx); have HR := Lib.hid (And.intro hr1 hr2); clear hbx hr1 hr2 hf1 hf2)
          | (go_simp; go_at_call 19; refine (HC19Z.out).mono ?_; rintro eA wA ⟨a1, n1, c1, a2, n2, c2, rfl, hbx, hr1, hr2, hf1, hf2⟩; have hbA := ((Below.refl w1.heap.size w1).alloc (Nat.le_refl _) (.cells #[.int .i64 0, .int .i64 0, .int .i64 0, .string ⟨#[]⟩, .slice none 0 0, .slice none 0 0, .int .i64 0, .int .i64 0, .int .i64 0] 37)).drew; have HBA := Lib.hid (hbA.trans (hbx.mono hbA.size)); obtain ⟨hz, y0, y1, y2, y3, y4, y5, y6, y7, y8, fz0, fz1, fz2, fz3, fz4, fz5, fz6, fz7, fz8⟩ := zeroRec hbx; have HZ := Lib.hid hz; have HR := Lib.hid (And.intro hr1 hr2); have HFR := Lib.hid (show (∀ x, blockOf a1 = some x → w1.heap.size + 1 ≤ x) ∧ (∀ x, blockOf a2 = some x → w1.heap.size + 1 ≤ x) from ⟨fun x hx => by have h9 := hf1 x hx; simp at h9; omega, fun x hx => by have h9 := hf2 x hx; simp at h9; omega⟩); clear hz hbx hbA hr1 hr2 hf1 hf2))
      all_goals
        go_wp2_with fail
        go_meet
        case rel =>
          (first
            | with_reducible exact RecAt.a HBA.out HR.out.1 HR.out.2
            | exact RecAt.b HBA.out HZ.out HR.out.1 HR.out.2 HFR.out.1 HFR.out.2)
    case rest =>
      obtain ⟨cb, a1, n1, c1, a2, n2, c2, rfl, hbw, hcb, hB, hr1, hr2⟩ := hcut
      have hbq := HB1.out.trans (hbw.mono HB1.out.size)
      rename World => wz
      have hkz : ∀ wx : World, Below wz.heap.size wz wx → ((wx.cell? ⟨w.heap.size, 0, none⟩ = some (.string A.dat) ∧ wx.cell? ⟨w.heap.size, 1, none⟩ = some (.slice A.sa A.sn A.sc) ∧ wx.cell? ⟨w.heap.size, 2, none⟩ = some (.bool A.early) ∧ wx.cell? ⟨w.heap.size, 3, none⟩ = some (.bool A.broken) ∧ wx.cell? ⟨w.heap.size, 4, none⟩ = some (.bool A.wr) ∧ wx.cell? ⟨w.heap.size, 5, none⟩ = some (.slice A.pa A.pn A.pc)) ∧
        (wx.cell? ⟨w.heap.size + 1, 0, none⟩ = some (.slice A.ta A.tn A.tc) ∧ wx.cell? ⟨w.heap.size + 1, 1, none⟩ = some (.int .i64 A.room) ∧ wx.cell? ⟨w.heap.size + 1, 2, none⟩ = some (.bool A.over) ∧ wx.cell? ⟨w.heap.size + 1, 3, none⟩ = some (.bool A.rd) ∧ wx.cell? ⟨w.heap.size + 1, 4, none⟩ = some (.int .i64 A.bk) ∧ wx.cell? ⟨w.heap.size + 1, 5, none⟩ = some (.slice A.qa A.qn A.qc))) ∧ (wx.cell? ⟨cb, 0, none⟩ = some (.int .i64 (tot : Nat)) ∧ wx.cell? ⟨cb, 1, none⟩ = some (.int .i64 ex) ∧ wx.cell? ⟨cb, 2, none⟩ = some (.int .i64 (way : Nat)) ∧ wx.cell? ⟨cb, 3, none⟩ = some (.string d) ∧ wx.cell? ⟨cb, 4, none⟩ = some (.slice a1 n1 c1) ∧ wx.cell? ⟨cb, 5, none⟩ = some (.slice a2 n2 c2) ∧ wx.cell? ⟨cb, 6, none⟩ = some (.int .i64 (k : Nat)) ∧ wx.cell? ⟨cb, 7, none⟩ = some (.int .i64 (wk : Nat)) ∧ wx.cell? ⟨cb, 8, none⟩ = some (.int .i64 (lf : Nat))) := fun wx hx => ⟨HKB.out wx (hbw.trans (hx.mono hbw.size)), by
        have h := hB.below hx
        exact ⟨h.cell 0 rfl, h.cell 1 rfl, h.cell 2 rfl, h.cell 3 rfl, h.cell 4 rfl, h.cell 5 rfl, h.cell 6 rfl, h.cell 7 rfl, h.cell 8 rfl⟩⟩
      have hcz : ∀ wx : World, Below wz.heap.size wz wx → CopiedV tot ex way d ss cs k wk lf (.agg #[.int .i64 (tot : Nat), .int .i64 ex, .int .i64 (way : Nat), .string d, .slice a1 n1 c1, .slice a2 n2 c2, .int .i64 (k : Nat), .int .i64 (wk : Nat), .int .i64 (lf : Nat)]) wx := fun wx hx => ⟨a1, n1, c1, a2, n2, c2, rfl, hr1.below hx, hr2.below hx⟩
      have HKZ := Lib.hid hkz
      have HCZ := Lib.hid hcz
      have HC20 := Lib.hid (show ∀ wx : World, Below wz.heap.size wz wx → _ from fun wx hx => H20.out wx (hbq.trans (hx.mono hbq.size)))
      have HAWZ := Lib.hid (show ∀ wx : World, Below wz.heap.size wz wx → _ from fun wx hx => HAWK.out wx (hbq.trans (hx.mono hbq.size)))
      have HBZ := Lib.hid (HBW.out.trans (hbq.mono HBW.out.size))
      clear hkz hcz hbw hcb hB hr1 hr2 hbq HC19D HC19Z HKB
      go_wp2_with fail
      by_cases h0 : most < 0
      · have k1 : decide (most < 0) = true := by simpa using h0
        clear h0
        refine wp_region_held_drew (S := fun wx : World => ((wx.cell? ⟨w.heap.size, 0, none⟩ = some (.string A.dat) ∧ wx.cell? ⟨w.heap.size, 1, none⟩ = some (.slice A.sa A.sn A.sc) ∧ wx.cell? ⟨w.heap.size, 2, none⟩ = some (.bool A.early) ∧ wx.cell? ⟨w.heap.size, 3, none⟩ = some (.bool A.broken) ∧ wx.cell? ⟨w.heap.size, 4, none⟩ = some (.bool A.wr) ∧ wx.cell? ⟨w.heap.size, 5, none⟩ = some (.slice A.pa A.pn A.pc)) ∧
        (wx.cell? ⟨w.heap.size + 1, 0, none⟩ = some (.slice A.ta A.tn A.tc) ∧ wx.cell? ⟨w.heap.size + 1, 1, none⟩ = some (.int .i64 A.room) ∧ wx.cell? ⟨w.heap.size + 1, 2, none⟩ = some (.bool A.over) ∧ wx.cell? ⟨w.heap.size + 1, 3, none⟩ = some (.bool A.rd) ∧ wx.cell? ⟨w.heap.size + 1, 4, none⟩ = some (.int .i64 A.bk) ∧ wx.cell? ⟨w.heap.size + 1, 5, none⟩ = some (.slice A.qa A.qn A.qc))) ∧ (wx.cell? ⟨cb, 0, none⟩ = some (.int .i64 (tot : Nat)) ∧ wx.cell? ⟨cb, 1, none⟩ = some (.int .i64 ex) ∧ wx.cell? ⟨cb, 2, none⟩ = some (.int .i64 (way : Nat)) ∧ wx.cell? ⟨cb, 3, none⟩ = some (.string d) ∧ wx.cell? ⟨cb, 4, none⟩ = some (.slice a1 n1 c1) ∧ wx.cell? ⟨cb, 5, none⟩ = some (.slice a2 n2 c2) ∧ wx.cell? ⟨cb, 6, none⟩ = some (.int .i64 (k : Nat)) ∧ wx.cell? ⟨cb, 7, none⟩ = some (.int .i64 (wk : Nat)) ∧ wx.cell? ⟨cb, 8, none⟩ = some (.int .i64 (lf : Nat)))) (by kernel_rfl) ?_ (fun hHeld => ?_)
        · exact HKZ.out _ (Below.refl _ _).drew
        refine takeN (i := 0) (v := ?va0) rfl (by kernel_rfl) (by kernel_rfl) (by kernel_rfl) (fun _ _ _ h => h) (Or.inl ⟨by rfl, ?hy0⟩) (by assumption) ?rest0
        case hy0 => (intro w9 hSw; (try dsimp only at hSw); go_simp; try with_reducible rfl)
        try simp only [Act.put, List.setIfInBounds_toArray, List.set_cons_zero, List.set_cons_succ]
        refine takeN (i := 1) (v := ?va1) rfl (by kernel_rfl) (by kernel_rfl) (by kernel_rfl) (fun _ _ _ h => h) (Or.inl ⟨by rfl, ?hy1⟩) (by assumption) ?rest1
        case hy1 => (intro w9 hSw; (try dsimp only at hSw); go_simp; try with_reducible rfl)
        try simp only [Act.put, List.setIfInBounds_toArray, List.set_cons_zero, List.set_cons_succ]
        refine takeN (i := 2) (v := ?va2) rfl (by kernel_rfl) (by kernel_rfl) (by kernel_rfl) (fun _ _ _ h => h) (Or.inl ⟨by rfl, ?hy2⟩) (by assumption) ?rest2
        case hy2 => (intro w9 hSw; (try dsimp only at hSw); go_simp; try with_reducible rfl)
        try simp only [Act.put, List.setIfInBounds_toArray, List.set_cons_zero, List.set_cons_succ]
        refine takeN (i := 3) (v := ?va3) rfl (by kernel_rfl) (by kernel_rfl) (by kernel_rfl) (fun _ _ _ h => h) (Or.inl ⟨by rfl, ?hy3⟩) (by assumption) ?rest3
        case hy3 => (intro w9 hSw; (try dsimp only at hSw); go_simp; try with_reducible rfl)
        try simp only [Act.put, List.setIfInBounds_toArray, List.set_cons_zero, List.set_cons_succ]
        refine takeN (i := 4) (v := ?va4) rfl (by kernel_rfl) (by kernel_rfl) (by kernel_rfl) (fun _ _ _ h => h) (Or.inl ⟨by rfl, ?hy4⟩) (by assumption) ?rest4
        case hy4 => (intro w9 hSw; (try dsimp only at hSw); go_simp; try with_reducible rfl)
        try simp only [Act.put, List.setIfInBounds_toArray, List.set_cons_zero, List.set_cons_succ]
        refine wpAnyH_ready (rs := [5]) (by kernel_rfl) (by simp) ?_
        refine consN rfl (fun K hK => ?_) AllReadyH.nil
        (go_simp; go_at_call 15; refine (HST.out _).mono ?_; rintro e15 w15 ⟨rfl, rfl⟩)
        refine hK.out _ _ ?_ (fun hHeld => ?_)
        · exact HKZ.out _ (Below.refl _ _).drew
        clear hK K
        try simp only [Act.put, List.setIfInBounds_toArray, List.set_cons_zero, List.set_cons_succ]
        refine wpAnyH_ready (rs := [6]) (by kernel_rfl) (by simp) ?_
        refine consN rfl (fun K hK => ?_) AllReadyH.nil
        (go_simp; go_at_call 20; refine (HC20.out _ (Below.refl _ _).drew).mono ?_; rintro eB wB h9; obtain ⟨vB, rfl, hbB, hvB⟩ := h9.copied; have HBB := Lib.hid ((Below.refl wz.heap.size wz).drew.trans hbB); have HVB := Lib.hid hvB; clear hbB hvB h9)
        refine hK.out _ _ ?_ (fun hHeld => ?_)
        · exact HKZ.out _ HBB.out
        clear hK K
        try simp only [Act.put, List.setIfInBounds_toArray, List.set_cons_zero, List.set_cons_succ]
        refine wpAnyH_ready (rs := [7]) (by kernel_rfl) (by simp) ?_
        refine consN rfl (fun K hK => ?_) AllReadyH.nil
        (go_simp; go_at_call 13; refine (sameT (HCZ.out _ HBB.out) HVB.out).mono ?_; rintro eC wC ⟨rfl, hbC⟩; have HBC := Lib.hid (HBB.out.trans (hbC.mono HBB.out.size)); clear hbC)
        refine hK.out _ _ ?_ (fun hHeld => ?_)
        · exact HKZ.out _ HBC.out
        clear hK K
        try simp only [Act.put, List.setIfInBounds_toArray, List.set_cons_zero, List.set_cons_succ]
        refine takeN (i := 8) (v := ?va8) rfl (by kernel_rfl) (by kernel_rfl) (by kernel_rfl) (fun _ _ _ h => h) (Or.inl ⟨by rfl, ?hy8⟩) (by assumption) ?rest8
        case hy8 => (intro w9 hSw; (try dsimp only at hSw); go_simp; try with_reducible rfl)
        try simp only [Act.put, List.setIfInBounds_toArray, List.set_cons_zero, List.set_cons_succ]
        refine takeN (i := 9) (v := ?va9) rfl (by kernel_rfl) (by kernel_rfl) (by kernel_rfl) (fun _ _ _ h => h) (Or.inl ⟨by rfl, ?hy9⟩) (by assumption) ?rest9
        case hy9 => (intro w9 hSw; (try dsimp only at hSw); go_simp; try with_reducible rfl)
        try simp only [Act.put, List.setIfInBounds_toArray, List.set_cons_zero, List.set_cons_succ]
        refine takeN (i := 10) (v := ?va10) rfl (by kernel_rfl) (by kernel_rfl) (by kernel_rfl) (fun _ _ _ h => h) (Or.inl ⟨by rfl, ?hy10⟩) (by assumption) ?rest10
        case hy10 => (intro w9 hSw; (try dsimp only at hSw); go_simp; try with_reducible rfl)
        try simp only [Act.put, List.setIfInBounds_toArray, List.set_cons_zero, List.set_cons_succ]
        refine takeN (i := 11) (v := ?va11) rfl (by kernel_rfl) (by kernel_rfl) (by kernel_rfl) (fun _ _ _ h => h) (Or.inl ⟨by rfl, ?hy11⟩) (by assumption) ?rest11
        case hy11 => (intro w9 hSw; (try dsimp only at hSw); go_simp; try with_reducible rfl)
        try simp only [Act.put, List.setIfInBounds_toArray, List.set_cons_zero, List.set_cons_succ]
        refine takeN (i := 12) (v := undef) rfl (by kernel_rfl) (by kernel_rfl) (by kernel_rfl) (fun _ _ _ h => h) (Or.inr ⟨by rfl, rfl⟩) (by assumption) ?_
        try simp only [Act.put, List.setIfInBounds_toArray, List.set_cons_zero, List.set_cons_succ]
        refine takeN (i := 13) (v := undef) rfl (by kernel_rfl) (by kernel_rfl) (by kernel_rfl) (fun _ _ _ h => h) (Or.inr ⟨by rfl, rfl⟩) (by assumption) ?_
        try simp only [Act.put, List.setIfInBounds_toArray, List.set_cons_zero, List.set_cons_succ]
        refine takeN (i := 14) (v := undef) rfl (by kernel_rfl) (by kernel_rfl) (by kernel_rfl) (fun _ _ _ h => h) (Or.inr ⟨by rfl, rfl⟩) (by assumption) ?_
        try simp only [Act.put, List.setIfInBounds_toArray, List.set_cons_zero, List.set_cons_succ]
        refine takeN (i := 15) (v := undef) rfl (by kernel_rfl) (by kernel_rfl) (by kernel_rfl) (fun _ _ _ h => h) (Or.inr ⟨by rfl, rfl⟩) (by assumption) ?_
        try simp only [Act.put, List.setIfInBounds_toArray, List.set_cons_zero, List.set_cons_succ]
        refine takeN (i := 16) (v := ?va16) rfl (by kernel_rfl) (by kernel_rfl) (by kernel_rfl) (fun _ _ _ h => h) (Or.inl ⟨by rfl, ?hy16⟩) (by assumption) ?rest16
        case hy16 => (intro w9 hSw; (try dsimp only at hSw); go_simp; try with_reducible rfl)
        try simp only [Act.put, List.setIfInBounds_toArray, List.set_cons_zero, List.set_cons_succ]
        refine takeN (i := 17) (v := ?va17) rfl (by kernel_rfl) (by kernel_rfl) (by kernel_rfl) (fun _ _ _ h => h) (Or.inl ⟨by rfl, ?hy17⟩) (by assumption) ?rest17
        case hy17 => (intro w9 hSw; (try dsimp only at hSw); go_simp; try with_reducible rfl)
        try simp only [Act.put, List.setIfInBounds_toArray, List.set_cons_zero, List.set_cons_succ]
        refine takeN (i := 18) (v := ?va18) rfl (by kernel_rfl) (by kernel_rfl) (by kernel_rfl) (fun _ _ _ h => h) (Or.inl ⟨by rfl, ?hy18⟩) (by assumption) ?rest18
        case hy18 => (intro w9 hSw; (try dsimp only at hSw); go_simp; try with_reducible rfl)
        try simp only [Act.put, List.setIfInBounds_toArray, List.set_cons_zero, List.set_cons_succ]
        refine wpAnyH_ready (rs := [19]) (by kernel_rfl) (by simp) ?_
        refine consN rfl (fun K hK => ?_) AllReadyH.nil
        (go_simp; go_at_call 12; refine (HAWZ.out _ HBC.out).mono ?_; rintro eD wD ⟨rfl, hbD⟩; have HBD := Lib.hid (HBC.out.trans (hbD.mono HBC.out.size)); clear hbD)
        refine hK.out _ _ ?_ (fun hHeld => ?_)
        · exact HKZ.out _ HBD.out
        clear hK K
        try simp only [Act.put, List.setIfInBounds_toArray, List.set_cons_zero, List.set_cons_succ]
        refine takeN (i := 20) (v := ?va20) rfl (by kernel_rfl) (by kernel_rfl) (by kernel_rfl) (fun _ _ _ h => h) (Or.inl ⟨by rfl, ?hy20⟩) (by assumption) ?rest20
        case hy20 => (intro w9 hSw; (try dsimp only at hSw); go_simp; try with_reducible rfl)
        try simp only [Act.put, List.setIfInBounds_toArray, List.set_cons_zero, List.set_cons_succ]
        refine takeN (i := 21) (v := ?va21) rfl (by kernel_rfl) (by kernel_rfl) (by kernel_rfl) (fun _ _ _ h => h) (Or.inl ⟨by rfl, ?hy21⟩) (by assumption) ?rest21
        case hy21 => (intro w9 hSw; (try dsimp only at hSw); go_simp; try with_reducible rfl)
        try simp only [Act.put, List.setIfInBounds_toArray, List.set_cons_zero, List.set_cons_succ]
        refine wpAnyH_done (by kernel_rfl) ?_ _
        go_wp2
        go_ret
        exact ⟨rfl, HBZ.out.trans (HBD.out.mono HBZ.out.size)⟩
      · have k1 : decide (most < 0) = false := by simpa using h0
        have k2 : decide ((tot : Int) ≤ most) = true := by have := HLE.out (by omega); simpa using this
        clear h0
        go_region_held3 (fun wx : World => ((wx.cell? ⟨w.heap.size, 0, none⟩ = some (.string A.dat) ∧ wx.cell? ⟨w.heap.size, 1, none⟩ = some (.slice A.sa A.sn A.sc) ∧ wx.cell? ⟨w.heap.size, 2, none⟩ = some (.bool A.early) ∧ wx.cell? ⟨w.heap.size, 3, none⟩ = some (.bool A.broken) ∧ wx.cell? ⟨w.heap.size, 4, none⟩ = some (.bool A.wr) ∧ wx.cell? ⟨w.heap.size, 5, none⟩ = some (.slice A.pa A.pn A.pc)) ∧
        (wx.cell? ⟨w.heap.size + 1, 0, none⟩ = some (.slice A.ta A.tn A.tc) ∧ wx.cell? ⟨w.heap.size + 1, 1, none⟩ = some (.int .i64 A.room) ∧ wx.cell? ⟨w.heap.size + 1, 2, none⟩ = some (.bool A.over) ∧ wx.cell? ⟨w.heap.size + 1, 3, none⟩ = some (.bool A.rd) ∧ wx.cell? ⟨w.heap.size + 1, 4, none⟩ = some (.int .i64 A.bk) ∧ wx.cell? ⟨w.heap.size + 1, 5, none⟩ = some (.slice A.qa A.qn A.qc))) ∧ (wx.cell? ⟨cb, 0, none⟩ = some (.int .i64 (tot : Nat)) ∧ wx.cell? ⟨cb, 1, none⟩ = some (.int .i64 ex) ∧ wx.cell? ⟨cb, 2, none⟩ = some (.int .i64 (way : Nat)) ∧ wx.cell? ⟨cb, 3, none⟩ = some (.string d) ∧ wx.cell? ⟨cb, 4, none⟩ = some (.slice a1 n1 c1) ∧ wx.cell? ⟨cb, 5, none⟩ = some (.slice a2 n2 c2) ∧ wx.cell? ⟨cb, 6, none⟩ = some (.int .i64 (k : Nat)) ∧ wx.cell? ⟨cb, 7, none⟩ = some (.int .i64 (wk : Nat)) ∧ wx.cell? ⟨cb, 8, none⟩ = some (.int .i64 (lf : Nat))))
          (first | exact HKZ.out _ (Below.refl _ _) | exact HKZ.out _ (Below.refl _ _).drew | exact HKZ.out _ HBD.out | exact HKZ.out _ HBC.out | exact HKZ.out _ HBB.out)
          (first
            | (go_simp; go_at_call 15; refine (HST.out _).mono ?_; rintro e15 w15 ⟨rfl, rfl⟩)
            | (go_simp; go_at_call 20; refine (HC20.out _ (Below.refl _ _).drew).mono ?_; rintro eB wB h9; obtain ⟨vB, rfl, hbB, hvB⟩ := h9.copied; have HBB := Lib.hid ((Below.refl wz.heap.size wz).drew.trans hbB); have HVB := Lib.hid hvB; clear hbB hvB h9)
            | (go_simp; go_at_call 13; refine (sameT (HCZ.out _ HBB.out) HVB.out).mono ?_; rintro eC wC ⟨rfl, hbC⟩; have HBC := Lib.hid (HBB.out.trans (hbC.mono HBB.out.size)); clear hbC)
            | (go_simp; go_at_call 12; refine (HAWZ.out _ HBC.out).mono ?_; rintro eD wD ⟨rfl, hbD⟩; have HBD := Lib.hid (HBC.out.trans (hbD.mono HBC.out.size)); clear hbD))
        all_goals
          go_wp2
          go_ret
          exact ⟨rfl, HBZ.out.trans (HBD.out.mono HBZ.out.size)⟩
end Go.Proofs.YtigfgdefgnahpaaDoor
