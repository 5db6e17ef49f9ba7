/-
  The walk of Copy (the code's). Not a statement of the seat.
-/
import Derived.Test.YtigfgdefgnahpaaDoorToldE
import Derived.Test.YtigfgdefgnahpaaDoorTold2
import Derived.Test.YtigfgdefgnahpaaDoorCopyPure
namespace Go.Proofs.YtigfgdefgnahpaaDoor
open Go.RowKit

/-- at the call's begin nobody owns anything -/
def free : Own := fun _ => none
theorem Blk.unowned {K : Nat → Prop} {w w' : World} {r r' : Own} {b : Nat} {cs : List Value} (h : Blk w b cs) (g : Step K w r w' r') (hb : r b = none) : Blk w' b cs :=
  h.same (g.keep b h.1 (fun k hk => by rw [hb] at hk; cases hk))
theorem told {eb gb fs tb : Nat} {lim : Value} {sp cp : List Value} {wr rd : Bool} {bk : Int} {s : Sc} {t : Tank} {n way : Nat} {e : Int} {ts : List Tank} {cs : List Int} {w : World} {r : Own}
    (hG : GearAt w r gb (ptr fs) (ptr tb) lim sp cp) (hS : SrcAt w r fs wr s) (hT : TankAt w r 40 tb t rd bk) (hE : ETat w r) (hSD : SidesAt w r sp ts ∧ CountsAt w cp cs) (hlen : sp.length ≤ 100 ∧ cp.length ≤ 100) (hbnd : Bnd w r) (he : e ≠ -1) :
    Calls Tryd.prog 33 #[.pointer (some ⟨gb, 0, none⟩), .int .i64 n, errV eb e, .int .i64 way] w (ToldP n e way t s ts cs w) := by
  unfold errV
  by_cases h0 : e = 0
  · subst h0
    exact told0 hG hS hT hSD hlen hbnd
  · rw [if_neg h0, if_neg he]
    exact toldE hG hS hT hE hSD hlen hbnd

set_option maxRecDepth 100000 in
set_option maxHeartbeats 4000000 in
theorem copyN {eb p F : Nat} {dat : ByteArray} {sa ta pa qa : Option Addr} {sn sc tn tc pn pc qn qc bulk m way : Nat} {zs tzs : List Int} {early broken wrt tover trd : Bool} {troom e : Int} {ps qs : List Pp} {R : Cp} {w : World}
    (hZ : RdK w free none 1 sa sn sc (I3 zs)) (hP : Pipes w free pa pn pc ps) (hTZ : RdK w free none 1 ta tn tc (I3 tzs)) (hQ : Pipes w free qa qn qc qs) (hrd : ∀ x ∈ ps, x.rd = false) (hpn : pn ≤ 10) (hqn : qn ≤ 10)
    (hok : CpOk p ⟨upto ps pn, srcOf dat.data.toList zs early broken, uptoK qs qn, freshT tzs troom tover, 0⟩) (hbk : trd = true → 1 ≤ bulk ∧ bulk ≤ 1000000) (hm1 : 1 ≤ m) (hm2 : m ≤ 1000000)
    (hE : EOFat w free eb) (hET : ETat w free) (hF : (srcOf dat.data.toList zs early broken).rem p < F)
    (hres : copyM ⟨wrt, fun _ => 0⟩ ⟨trd, fun _ => 0⟩ bulk m F ⟨upto ps pn, srcOf dat.data.toList zs early broken, uptoK qs qn, freshT tzs troom tover, 0⟩ = (R, e, (way : Int))) :
    Calls Tryd.prog 14 #[.agg #[.string dat, .slice sa sn sc, .bool early, .bool broken, .bool wrt, .slice pa pn pc], .agg #[.slice ta tn tc, .int .i64 troom, .bool tover, .bool trd, .int .i64 (bulk : Int), .slice qa qn qc], .int .i64 m] w (ToldP R.tot e way R.t R.s (sideTs R.l) (cntsOf R.l ++ cntsK R.k) w) := by
  have hd : dat.size ≤ 65535 := by have := hok.s.2.2.2; have h2 : dat.data.toList.length = dat.size := Array.length_toList; dsimp only [srcOf] at this; omega
  obtain ⟨wq, hwq⟩ : ∃ wq, ((w.alloc (.cells #[.string dat, .slice sa sn sc, .bool early, .bool broken, .bool wrt, .slice pa pn pc] 25)).alloc (.cells #[.slice ta tn tc, .int .i64 troom, .bool tover, .bool trd, .int .i64 (bulk : Int), .slice qa qn qc] 29)).alloc (.cells #[.int .i64 0, .int .i64 0, .int .i64 0, .string ⟨#[]⟩, .slice none 0 0, .slice none 0 0, .int .i64 0, .int .i64 0, .int .i64 0] 37) = wq := ⟨_, rfl⟩
  have hbnd : Bnd w free := fun _ _ => rfl
  have hq0 : Step (fun _ => False) w free wq free := by rw [← hwq]; exact (((Step.refl _ hbnd).alloc _).alloc _).alloc _
  have hqs : wq.heap.size = w.heap.size + 3 := by rw [← hwq, sz_alloc, sz_alloc, sz_alloc]
  have hb1 : Blk wq w.heap.size [.string dat, .slice sa sn sc, .bool early, .bool broken, .bool wrt, .slice pa pn pc] := by rw [← hwq]; exact ((Blk.new _ _ _).alloc _).alloc _
  have hb2 : Blk wq (w.heap.size + 1) [.slice ta tn tc, .int .i64 troom, .bool tover, .bool trd, .int .i64 (bulk : Int), .slice qa qn qc] := by rw [← hwq]; have := Blk.new (w.alloc (.cells #[.string dat, .slice sa sn sc, .bool early, .bool broken, .bool wrt, .slice pa pn pc] 25)) #[.slice ta tn tc, .int .i64 troom, .bool tover, .bool trd, .int .i64 (bulk : Int), .slice qa qn qc] 29; rw [sz_alloc] at this; exact this.alloc _
  have hb3 : Blk wq (w.heap.size + 1 + 1) [.int .i64 0, .int .i64 0, .int .i64 0, .string ⟨#[]⟩, .slice none 0 0, .slice none 0 0, .int .i64 0, .int .i64 0, .int .i64 0] := by rw [← hwq]; have := Blk.new ((w.alloc (.cells #[.string dat, .slice sa sn sc, .bool early, .bool broken, .bool wrt, .slice pa pn pc] 25)).alloc (.cells #[.slice ta tn tc, .int .i64 troom, .bool tover, .bool trd, .int .i64 (bulk : Int), .slice qa qn qc] 29)) #[.int .i64 0, .int .i64 0, .int .i64 0, .string ⟨#[]⟩, .slice none 0 0, .slice none 0 0, .int .i64 0, .int .i64 0, .int .i64 0] 37; rw [sz_alloc, sz_alloc] at this; exact this
  obtain ⟨wg, hwg⟩ : ∃ wg, wq.alloc (.cells #[.pointer none, .pointer none, .slice none 0 0, .slice none 0 0, .pointer none] 60) = wg := ⟨_, rfl⟩
  have hg0 : Step (fun k => k = 32) wq free wg (free.give wq.heap.size 32) := by rw [← hwg]; exact ((Step.refl _ hq0.bound).alloc _).give (Nat.le_refl _) (by rw [sz_alloc]; omega) rfl
  have hG : GearAt wg (free.give wq.heap.size 32) wq.heap.size (.pointer none) (.pointer none) (.pointer none) [] [] := by
    refine ⟨none, 0, 0, none, 0, 0, Own.give_same _ _ _, by rw [← hwg]; exact Blk.new _ _ _, ⟨Row.nil _ _ _, fun x hx => by cases hx⟩, ⟨Row.nil _ _ _, fun x hx => by cases hx⟩⟩
  have hwg0 := (hq0.mono (K' := fun k => k = 32) (fun _ h => h.elim)).trans hg0
  have hx1 := hb1.below (by rw [← hwg]; exact (Below.refl _ _).alloc (Nat.le_refl _) _ : Below wq.heap.size wq wg)
  have hx2 := hb2.below (by rw [← hwg]; exact (Below.refl _ _).alloc (Nat.le_refl _) _ : Below wq.heap.size wq wg)
  have HX1 := Lib.hid hx1
  have HX2 := Lib.hid hx2
  have HX3 := Lib.hid (hb3.below (by rw [← hwg]; exact (Below.refl _ _).alloc (Nat.le_refl _) _ : Below wq.heap.size wq wg))
  have HWG0 := Lib.hid hwg0
  have HG := Lib.hid hG
  have HPW := Lib.hid (hP.step hwg0)
  have HQW := Lib.hid (hQ.step hwg0)
  have HZW := Lib.hid (hZ.step hwg0 (fun _ h => by cases h))
  have HTW := Lib.hid (hTZ.step hwg0 (fun _ h => by cases h))
  have HEW := Lib.hid (hE.step hwg0)
  have HTE := Lib.hid (hET.step hwg0)
  have HOK := Lib.hid hok
  have HRES := Lib.hid hres
  have HRD := Lib.hid hrd
  have HF := Lib.hid hF
  have HQS := Lib.hid hqs
  have HGS := Lib.hid (show wg.heap.size = wq.heap.size + 1 by rw [← hwg, sz_alloc])
  have hun : ∀ k, k < 3 → (free.give wq.heap.size 32) (w.heap.size + k) = none := fun k hk => Own.give_other _ (by omega)
  have HUN := Lib.hid hun
  have c0 := hx1.cell 0 rfl
  have c1 := hx1.cell 1 rfl
  have c2 := hx1.cell 2 rfl
  have c3 := hx1.cell 3 rfl
  have c4 := hx1.cell 4 rfl
  have c5 := hx1.cell 5 rfl
  have hplen := hP.len
  have hqlen := hQ.len
  clear hx1 hx2 hb1 hb2 hb3 hq0 hg0 hG hwg0 hZ hP hTZ hQ hE hET hok hres hrd hF hqs hun hbnd
  go_enter Tryd.func14, Tryd.ntmps14
  go_wp2_with fail
  clear hwq hwg c0 c1 c2 c3 c4 c5
  refine (sourceN HG.out HZW.out HPW.out HRD.out (by omega) hd HWG0.out.bound).mono ?_
  rintro e1 w1 ⟨v1, rfl, r1, sh, hsw, g1, hC1, hG1⟩
  have HX2b := Lib.hid (HX2.out.unowned g1 (HUN.out 1 (by omega)))
  have HX3b := Lib.hid (HX3.out.unowned g1 (HUN.out 2 (by omega)))
  have hun1 : r1 (w.heap.size + 1) = none ∧ r1 (w.heap.size + 1 + 1) = none := by
    have := HQS.out
    have := HGS.out
    exact ⟨by rw [g1.old _ (by omega)]; exact HUN.out 1 (by omega), by rw [g1.old _ (by omega)]; exact HUN.out 2 (by omega)⟩
  have HUN1 := Lib.hid hun1
  have HG1 := Lib.hid g1
  have HC1 := Lib.hid hC1
  have HGA := Lib.hid hG1
  have HSW := Lib.hid hsw
  have c0 := HX2b.out.cell 0 rfl
  have c1 := HX2b.out.cell 1 rfl
  have c2 := HX2b.out.cell 2 rfl
  have c3 := HX2b.out.cell 3 rfl
  have c4 := HX2b.out.cell 4 rfl
  have c5 := HX2b.out.cell 5 rfl
  clear g1 hC1 hG1 hun1 hsw
  go_wp2_with fail
  clear c0 c1 c2 c3 c4 c5
  have hul : (upto ps pn).length = pn := upto_len (by omega)
  refine (sinkN HGA.out (HTW.out.step HG1.out (fun _ h => by cases h)) (HQW.out.step HG1.out) (by omega) (by have := countsOf_len sh (upto ps pn); omega) HG1.out.bound).mono ?_
  rintro e2 w2 ⟨v2, rfl, r2, sk, hsk, g2, hS2, hG2⟩
  have hcm : copyM sh sk bulk m F ⟨upto ps pn, srcOf dat.data.toList zs early broken, uptoK qs qn, freshT tzs troom tover, 0⟩ = (R, e, (way : Int)) := by
    rw [← HRES.out]; unfold copyM; rw [HSW.out, hsk]
  have hst := copyM_stays (sh := sh) (sk := sk) (bulk := bulk) (m := m) (F := F) HOK.out hm1 (fun h => (hbk (by rw [← hsk]; exact h)).1)
  rw [hcm] at hst
  obtain ⟨st1, st2, st3⟩ := hst
  have hC2 := HC1.out.step g2 (fun k hk h => by unfold KS at h; omega) (by unfold KS; omega)
  have HX3c := Lib.hid (HX3b.out.unowned g2 HUN1.out.2)
  have hun2 : r2 (w.heap.size + 1 + 1) = none := by rw [g2.old _ (HX3b.out.lt)]; exact HUN1.out.2
  have HUN2 := Lib.hid hun2
  have HG2 := Lib.hid g2
  have HGB := Lib.hid hG2
  have hrun := runN (eb := eb) hG2 hC2 hS2 HOK.out (by show (upto ps pn).length < 20; omega) ((HEW.out.step HG1.out).step g2) g2.bound rfl HF.out (fun h => hbk (by rw [← hsk]; exact h)) hm1 hm2 hcm rfl rfl
  obtain ⟨ev, hev⟩ : ∃ ev, errV eb e = ev := ⟨_, rfl⟩
  rw [hev] at hrun
  have HEV := Lib.hid hev
  have HRUN := Lib.hid hrun
  have HST := Lib.hid (And.intro st1 (And.intro st2 st3))
  clear g2 hS2 hG2 hC2 hcm hrun hev st1 st2 st3 hun2 hsk hul
  go_wp2_with fail
  refine HRUN.out.mono ?_
  rintro e3 w3 ⟨rfl, r3, g3, hC3, hS3⟩
  have hgear := HGB.out.step g3 (by unfold KC; omega) (by unfold KC; omega) (by unfold KC; omega)
  obtain ⟨so1, so2⟩ := sidesOf_ops (sh := sh) HST.out.1
  have so3 := skCounts_ops (sk := sk) HST.out.2.1
  have hcs := chainSides hC3
  have hks := sinkSides hS3
  rw [so1, so2] at hcs
  rw [so3] at hks
  have hul : (upto ps pn).length = pn := upto_len (by omega)
  have hul2 : (uptoK qs qn).length = qn := uptoK_len (by omega)
  have htold := told (eb := eb) (n := R.tot) (way := way) hgear (chainSrc hC3) (sinkTank hS3) (((HTE.out.step HG1.out).step HG2.out).step g3) ⟨hcs.1, hcs.2.both hks⟩ ⟨by have := sidesOf_len sh (upto ps pn); omega, by rw [List.length_append]; have := countsOf_len sh (upto ps pn); have := skCounts_len sk (uptoK qs qn); omega⟩ g3.bound HST.out.2.2
  rw [HEV.out] at htold
  have HTOLD := Lib.hid htold
  have HX3d := Lib.hid (HX3c.out.unowned g3 HUN2.out)
  have hall : Step (fun _ => True) w free w3 r3 := (((HWG0.out.mono (fun _ _ => trivial)).trans (HG1.out.mono (fun _ _ => trivial))).trans (HG2.out.mono (fun _ _ => trivial))).trans (g3.mono (fun _ _ => trivial))
  have HB3 := Lib.hid (hall.below (Nat.le_refl _) (fun _ _ => rfl))
  clear hgear so1 so2 so3 hcs hks htold hall g3 hC3 hS3 hul hul2
  go_wp2_with fail
  refine HTOLD.out.mono ?_
  rintro e4 w4 ⟨b1, m1, d1', b2, m2, d2', rfl, hb4, hrA, hrB, hgA, hgB⟩
  have hz := HX3d.out.below hb4
  have y0 := hz.cell 0 rfl
  have z0 := hz.free 0 (by simp)
  have y1 := hz.cell 1 rfl
  have z1 := hz.free 1 (by simp)
  have y2 := hz.cell 2 rfl
  have z2 := hz.free 2 (by simp)
  have y3 := hz.cell 3 rfl
  have z3 := hz.free 3 (by simp)
  have y4 := hz.cell 4 rfl
  have z4 := hz.free 4 (by simp)
  have y5 := hz.cell 5 rfl
  have z5 := hz.free 5 (by simp)
  have y6 := hz.cell 6 rfl
  have z6 := hz.free 6 (by simp)
  have y7 := hz.cell 7 rfl
  have z7 := hz.free 7 (by simp)
  have y8 := hz.cell 8 rfl
  have z8 := hz.free 8 (by simp)
  have HZ := Lib.hid hz
  have HB4 := Lib.hid (HB3.out.trans (hb4.mono HB3.out.size))
  have HLT := Lib.hid HX3d.out.lt
  have HGA' := Lib.hid hgA
  have HGB' := Lib.hid hgB
  have HRA := Lib.hid hrA
  have HRB := Lib.hid hrB
  obtain ⟨sv, hsv⟩ : ∃ sv, hasS R.t = Value.string sv := ⟨_, rfl⟩
  rw [hsv]
  have HSV := Lib.hid hsv
  clear hz hb4 hrA hrB hsv hgA hgB
  go_wp2
  clear y0 y1 y2 y3 y4 y5 y6 y7 y8 z0 z1 z2 z3 z4 z5 z6 z7 z8
  have hF := (((((((((HZ.out.set (j := 0) (.int .i64 (R.tot : Int))).set (j := 1) (.int .i64 e)).set (j := 2) (.int .i64 (way : Int))).set (j := 3) (.string sv)).set (j := 4) (.slice b1 m1 d1')).set (j := 5) (.slice b2 m2 d2')).set (j := 6) (.int .i64 (R.s.k : Int))).set (j := 7) (.int .i64 (R.t.k : Int))).set (j := 8) (.int .i64 (R.s.left : Int)))
  have hbel : Below w.heap.size w (((((((((w4.setCell ⟨w.heap.size + 1 + 1, 0, none⟩ (.int .i64 (R.tot : Int))).setCell ⟨w.heap.size + 1 + 1, 1, none⟩ (.int .i64 e)).setCell ⟨w.heap.size + 1 + 1, 2, none⟩ (.int .i64 (way : Int))).setCell ⟨w.heap.size + 1 + 1, 3, none⟩ (.string sv)).setCell ⟨w.heap.size + 1 + 1, 4, none⟩ (.slice b1 m1 d1')).setCell ⟨w.heap.size + 1 + 1, 5, none⟩ (.slice b2 m2 d2')).setCell ⟨w.heap.size + 1 + 1, 6, none⟩ (.int .i64 (R.s.k : Int))).setCell ⟨w.heap.size + 1 + 1, 7, none⟩ (.int .i64 (R.t.k : Int))).setCell ⟨w.heap.size + 1 + 1, 8, none⟩ (.int .i64 (R.s.left : Int))) := (((((((((HB4.out.setCell (p := ⟨w.heap.size + 1 + 1, 0, none⟩) (by show w.heap.size ≤ w.heap.size + 1 + 1; omega) (.int .i64 (R.tot : Int))).setCell (p := ⟨w.heap.size + 1 + 1, 1, none⟩) (by show w.heap.size ≤ w.heap.size + 1 + 1; omega) (.int .i64 e)).setCell (p := ⟨w.heap.size + 1 + 1, 2, none⟩) (by show w.heap.size ≤ w.heap.size + 1 + 1; omega) (.int .i64 (way : Int))).setCell (p := ⟨w.heap.size + 1 + 1, 3, none⟩) (by show w.heap.size ≤ w.heap.size + 1 + 1; omega) (.string sv)).setCell (p := ⟨w.heap.size + 1 + 1, 4, none⟩) (by show w.heap.size ≤ w.heap.size + 1 + 1; omega) (.slice b1 m1 d1')).setCell (p := ⟨w.heap.size + 1 + 1, 5, none⟩) (by show w.heap.size ≤ w.heap.size + 1 + 1; omega) (.slice b2 m2 d2')).setCell (p := ⟨w.heap.size + 1 + 1, 6, none⟩) (by show w.heap.size ≤ w.heap.size + 1 + 1; omega) (.int .i64 (R.s.k : Int))).setCell (p := ⟨w.heap.size + 1 + 1, 7, none⟩) (by show w.heap.size ≤ w.heap.size + 1 + 1; omega) (.int .i64 (R.t.k : Int))).setCell (p := ⟨w.heap.size + 1 + 1, 8, none⟩) (by show w.heap.size ≤ w.heap.size + 1 + 1; omega) (.int .i64 (R.s.left : Int)))
  have hkeep : ∀ (a : Option Addr) n c xs, Rd w4 1 a n c xs → (∀ x, blockOf a = some x → w3.heap.size ≤ x) → Rd (((((((((w4.setCell ⟨w.heap.size + 1 + 1, 0, none⟩ (.int .i64 (R.tot : Int))).setCell ⟨w.heap.size + 1 + 1, 1, none⟩ (.int .i64 e)).setCell ⟨w.heap.size + 1 + 1, 2, none⟩ (.int .i64 (way : Int))).setCell ⟨w.heap.size + 1 + 1, 3, none⟩ (.string sv)).setCell ⟨w.heap.size + 1 + 1, 4, none⟩ (.slice b1 m1 d1')).setCell ⟨w.heap.size + 1 + 1, 5, none⟩ (.slice b2 m2 d2')).setCell ⟨w.heap.size + 1 + 1, 6, none⟩ (.int .i64 (R.s.k : Int))).setCell ⟨w.heap.size + 1 + 1, 7, none⟩ (.int .i64 (R.t.k : Int))).setCell ⟨w.heap.size + 1 + 1, 8, none⟩ (.int .i64 (R.s.left : Int))) 1 a n c xs := by
    intro a n c xs h hx
    have hl := HLT.out
    have hn : blockOf a ≠ some (w.heap.size + 1 + 1) := fun e => by have := hx _ e; omega
    exact (((((((((h.kept (grownBy_setAt _ ⟨w.heap.size + 1 + 1, 0, none⟩ (.int .i64 (R.tot : Int))) (.inl hn)).kept (grownBy_setAt _ ⟨w.heap.size + 1 + 1, 1, none⟩ (.int .i64 e)) (.inl hn)).kept (grownBy_setAt _ ⟨w.heap.size + 1 + 1, 2, none⟩ (.int .i64 (way : Int))) (.inl hn)).kept (grownBy_setAt _ ⟨w.heap.size + 1 + 1, 3, none⟩ (.string sv)) (.inl hn)).kept (grownBy_setAt _ ⟨w.heap.size + 1 + 1, 4, none⟩ (.slice b1 m1 d1')) (.inl hn)).kept (grownBy_setAt _ ⟨w.heap.size + 1 + 1, 5, none⟩ (.slice b2 m2 d2')) (.inl hn)).kept (grownBy_setAt _ ⟨w.heap.size + 1 + 1, 6, none⟩ (.int .i64 (R.s.k : Int))) (.inl hn)).kept (grownBy_setAt _ ⟨w.heap.size + 1 + 1, 7, none⟩ (.int .i64 (R.t.k : Int))) (.inl hn)).kept (grownBy_setAt _ ⟨w.heap.size + 1 + 1, 8, none⟩ (.int .i64 (R.s.left : Int))) (.inl hn))
  have hra := hkeep _ _ _ _ HRA.out HGA'.out
  have hrb := hkeep _ _ _ _ HRB.out HGB'.out
  clear hkeep
  generalize (((((((((w4.setCell ⟨w.heap.size + 1 + 1, 0, none⟩ (.int .i64 (R.tot : Int))).setCell ⟨w.heap.size + 1 + 1, 1, none⟩ (.int .i64 e)).setCell ⟨w.heap.size + 1 + 1, 2, none⟩ (.int .i64 (way : Int))).setCell ⟨w.heap.size + 1 + 1, 3, none⟩ (.string sv)).setCell ⟨w.heap.size + 1 + 1, 4, none⟩ (.slice b1 m1 d1')).setCell ⟨w.heap.size + 1 + 1, 5, none⟩ (.slice b2 m2 d2')).setCell ⟨w.heap.size + 1 + 1, 6, none⟩ (.int .i64 (R.s.k : Int))).setCell ⟨w.heap.size + 1 + 1, 7, none⟩ (.int .i64 (R.t.k : Int))).setCell ⟨w.heap.size + 1 + 1, 8, none⟩ (.int .i64 (R.s.left : Int))) = w9 at hF hbel hra hrb ⊢
  have d0 := hF.cell 0 rfl
  have d1 := hF.cell 1 rfl
  have d2 := hF.cell 2 rfl
  have d3 := hF.cell 3 rfl
  have d4 := hF.cell 4 rfl
  have d5 := hF.cell 5 rfl
  have d6 := hF.cell 6 rfl
  have d7 := hF.cell 7 rfl
  have d8 := hF.cell 8 rfl
  refine bodyPost_ret (v := .agg #[.int .i64 (R.tot : Int), .int .i64 e, .int .i64 (way : Int), .string sv, .slice b1 m1 d1', .slice b2 m2 d2', .int .i64 (R.s.k : Int), .int .i64 (R.t.k : Int), .int .i64 (R.s.left : Int)]) (by simp [results, Tryd.f14, go_sem, d0, d1, d2, d3, d4, d5, d6, d7, d8]) rfl ?_
  refine ⟨b1, m1, d1', b2, m2, d2', by rw [HSV.out], hbel, hra, hrb, fun x hx => ?_, fun x hx => ?_⟩
  · have := HGA'.out x hx; have := HB3.out.size; omega
  · have := HGB'.out x hx; have := HB3.out.size; omega
end Go.Proofs.YtigfgdefgnahpaaDoor
