/-
  Reading all: as a plain function, and the walk of the document's All. Not a statement of the seat.
-/
import Derived.Test.YtigfgdefgnahpaaDoorCopies
import Derived.Deep.CutRange
namespace Go.Proofs.YtigfgdefgnahpaaDoor
open Go.RowKit

def aRound (m : Nat) (c : Cp) : Cp × Option Int := ((c.read m).plus (readM c.l c.s m).n, if (readM c.l c.s m).e = 0 then none else some (readM c.l c.s m).e)
/-- what is told: the bytes, the error -/
def allOut (data : Bytes) (R : Cp × Int) : Bytes × Int := (data.take R.1.tot, if R.2 = -1 then 0 else R.2)
theorem aRound_ok {p m : Nat} {c : Cp} (h : CpOk p c) (hm : 1 ≤ m) (ht : c.tot = c.s.pos) (he : (readM c.l c.s m).e = 0) :
    CpOk p (aRound m c).1 ∧ (aRound m c).1.s.rem p < c.s.rem p ∧ (aRound m c).1.tot = (aRound m c).1.s.pos := by
  have g := readM_good c.l c.s m h.s h.l
  obtain ⟨a, ar⟩ := read_ok h (m := m) hm he
  have hf := g.full he
  have h1 := g.pos
  refine ⟨⟨a.s, a.some, a.l, a.t, a.has, ?_, a.tk, a.k, a.kk⟩, ar, ?_⟩
  · show c.tot + (readM c.l c.s m).n ≤ (readM c.l c.s m).s.pos
    omega
  · show c.tot + (readM c.l c.s m).n = (readM c.l c.s m).s.pos
    omega

def KO9 (j : Nat) : Prop := j = 2000
def ARel (Res : Cp × Int) (p m wb : Nat) (X : Wk) (t : Tank) (dat : Bytes) (w0 : World) (f : Nat) (o : Value) (wx : World) : Prop :=
  ∃ c rx a cap, o = .slice a c.tot cap ∧ Step (fun _ => True) w0 free wx rx ∧ WorkAt wx rx wb X c.l c.s [] t ∧ RowK wx rx 2000 1 a c.tot cap (B8 (dat.take c.tot)) ∧ CpOk p c ∧ c.tot = c.s.pos ∧ c.s.data = dat ∧ c.l.length ≤ 10 ∧ c.s.rem p < f ∧ runM (aRound m) f c = Res
theorem RowK.nilK (w : World) (r : Own) (k sz : Nat) : RowK w r k sz none 0 0 [] := ⟨Row.nil _ _ _, fun x hx => by cases hx⟩
/-- an append onto a row of the owner k, told with owners -/
theorem RowK.appended {w w' : World} {r : Own} {k n n' c c' : Nat} {a a' : Option Addr} {xs ys : List Value} (hbnd : Bnd w r) (h : RowK w r k 1 a n c xs) (hrow : Row 0 w' 1 a' n' c' ys) (hgr : w.grownBy w' (blockOf a)) (hbk : blockOf a' = blockOf a ∨ blockOf a' = some w.heap.size) :
    ∃ r', Step (· = k) w r w' r' ∧ RowK w' r' k 1 a' n' c' ys := by
  have g3 := (Step.refl (· = k) hbnd).grown hgr (fun x hx _ => ⟨k, h.2 x hx, rfl⟩)
  rcases hbk with hb | hb
  · refine ⟨r, g3, hrow, fun x hx => ?_⟩
    rw [hb] at hx
    exact h.2 x hx
  · have hlt := (hrow.lt _ hb).2
    refine ⟨_, g3.give (b := w.heap.size) (k := k) (Nat.le_refl _) hlt rfl, hrow, fun x hx => ?_⟩
    rw [hb] at hx
    cases hx
    exact Own.give_same _ _ _

/-- a source alone, as the arguments of Start -/
def srcSa (dat : ByteArray) (sa : Option Addr) (sn sc : Nat) (early broken wr : Bool) (pa : Option Addr) (pn pc : Nat) : Sa := ⟨dat, sa, sn, sc, early, broken, wr, pa, pn, pc, none, 0, 0, 0, false, false, 0, none, 0, 0⟩

set_option maxRecDepth 100000 in
set_option maxHeartbeats 8000000 in
theorem allR {p F size : Nat} {e : Int} {out : ByteArray} {dat : ByteArray} {sa pa : Option Addr} {sn sc pn pc : Nat} {zs : List Int} {early broken wrt : Bool} {ps : List Pp} {Res : Cp × Int} {w : World}
    (hZ : RdK w free none 1 sa sn sc (I3 zs)) (hP : Pipes w free pa pn pc ps) (hpn : pn ≤ 10) (hok : CpOk p ⟨upto ps pn, srcOf dat.data.toList zs early broken, [], freshT [] 0 false, 0⟩) (hsz1 : 1 ≤ size) (hsz2 : size ≤ 1000000)
    (hF : (srcOf dat.data.toList zs early broken).rem p < F) (hres : runM (aRound size) F ⟨upto ps pn, srcOf dat.data.toList zs early broken, [], freshT [] 0 false, 0⟩ = Res) (hout : allOut dat.data.toList Res = (out.data.toList, e)) :
    Calls Tryd.prog 25 #[.agg #[.string dat, .slice sa sn sc, .bool early, .bool broken, .bool wrt, .slice pa pn pc], .int .i64 size] w (RV w (.tuple #[.string out, .int .i64 e])) := by
  obtain ⟨i0, hy0, hy1, hy2, hy3⟩ := u8Info
  have hbnd : Bnd w free := fun _ _ => rfl
  obtain ⟨wq, hwq⟩ : ∃ wq, w.alloc (.cells #[.string dat, .slice sa sn sc, .bool early, .bool broken, .bool wrt, .slice pa pn pc] 25) = wq := ⟨_, rfl⟩
  have hq0 : Step (fun _ => False) w free wq free := by rw [← hwq]; exact (Step.refl _ hbnd).alloc _
  have hb1 : Blk wq w.heap.size [.string dat, .slice sa sn sc, .bool early, .bool broken, .bool wrt, .slice pa pn pc] := by rw [← hwq]; exact Blk.new _ _ _
  have hst := startR (A := srcSa dat sa sn sc early broken wrt pa pn pc) (ps := ps) (qs := []) (tzs := []) hq0.bound (hP.step hq0) (nilPipes wq) (nilRdK wq) hpn (by show 0 ≤ 10; omega)
  have hst2 : Calls Tryd.prog 34 #[.agg #[.string dat, .slice sa sn sc, .bool early, .bool broken, .bool wrt, .slice pa pn pc], .agg #[.slice none 0 0, .int .i64 0, .bool false, .bool false, .int .i64 0, .slice none 0 0]] wq (StartP (srcSa dat sa sn sc early broken wrt pa pn pc) ps (freshT [] 0 false) wq free) := hst
  have HST := Lib.hid hst2
  have HPQ := Lib.hid (hP.step hq0)
  have HZQ := Lib.hid (hZ.step hq0 (fun _ h => by cases h))
  have HQ0 := Lib.hid hq0
  have HOK := Lib.hid hok
  have HF := Lib.hid hF
  have HRES := Lib.hid hres
  have HOUT := Lib.hid hout
  have HPL := Lib.hid hP.len
  have HY := Lib.hid (And.intro hy0 (And.intro hy1 (And.intro hy2 hy3)))
  have c0 := hb1.cell 0 rfl
  have c1 := hb1.cell 1 rfl
  have c2 := hb1.cell 2 rfl
  have c3 := hb1.cell 3 rfl
  have c4 := hb1.cell 4 rfl
  have c5 := hb1.cell 5 rfl
  clear hst hst2 hZ hP hok hF hres hout hq0 hb1 hbnd hy0 hy1 hy2 hy3
  go_enter Tryd.func25, Tryd.ntmps25
  go_wp2_with fail
  clear hwq c0 c1 c2 c3 c4 c5
  refine HST.out.mono ?_
  rintro e1 w1 ⟨wb, r1, tb, sb, db, Rr, bl, rfl, g1, hs⟩
  have hwk := startWork rfl hs (HPQ.out.step g1) ((nilPipes wq).step g1) (HZQ.out.step g1 (fun _ h => by cases h))
  obtain ⟨X, hX⟩ : ∃ X, wkOf (srcSa dat sa sn sc early broken wrt pa pn pc) ps [] Rr tb bl = X := ⟨_, rfl⟩
  rw [hX] at hwk
  have hul : (upto ps pn).length = pn := upto_len (by rw [HPL.out]; omega)
  have hrel0 : ARel Res p size wb X (freshT [] 0 false) dat.data.toList w F (.slice none 0 0) w1 :=
    ⟨⟨upto ps pn, srcOf dat.data.toList zs early broken, [], freshT [] 0 false, 0⟩, r1, none, 0, rfl, (HQ0.out.mono (fun _ h => h.elim)).trans (g1.mono (fun _ _ => trivial)), hwk.1, RowK.nilK _ _ _ _, HOK.out, rfl, rfl, by show (upto ps pn).length ≤ 10; omega, HF.out, HRES.out⟩
  have HREL0 := Lib.hid hrel0
  clear hrel0 hwk hs g1 hX hul HST HPQ HZQ HQ0 HPL
  go_wp2_with fail
  go_loopw [7] (fun t wb' => ∃ f, ARel Res p size wb X (freshT [] 0 false) dat.data.toList w f t wb') (fun t wb' => Go.Proofs.YtigfgdefgnahpaaDoor.least (fun f => ARel Res p size wb X (freshT [] 0 false) dat.data.toList w f t wb'))
  case atStart => exact ⟨F, HREL0.out⟩
  case round =>
    obtain ⟨f, hf, hle⟩ : ∃ f, ARel Res p size wb X (freshT [] 0 false) dat.data.toList w f u7 wr ∧ f ≤ Go.Proofs.YtigfgdefgnahpaaDoor.least (fun f => ARel Res p size wb X (freshT [] 0 false) dat.data.toList w f u7 wr) := ⟨_, least_spec hrel, Nat.le_refl _⟩
    have HLE := Lib.hid hle
    clear hle hrel HREL0
    obtain ⟨c, rx, ao, co, rfl, g, hW, hO, hok, htp, hdd, hl, hrem, hres⟩ := hf
    obtain ⟨f, rfl⟩ : ∃ f', f = f' + 1 := ⟨f - 1, by omega⟩
    have hgood := readM_good c.l c.s size hok.s hok.l
    have hp1 := hok.s.2.2.1
    have hp2 := hok.s.2.2.2
    have hp3 := hgood.ok.2.2.1
    rw [hgood.data] at hp3
    have hp4 := hgood.bytes
    have hp6 := hgood.pos
    have hkk := hok.kk
    have hrd := readR hW hok.s hok.l (by omega) hsz2 (by omega) g.bound
    have hprog := fun h => aRound_ok hok hsz1 htp h
    obtain ⟨n, hn⟩ : ∃ n, (readM c.l c.s size).n = n := ⟨_, rfl⟩
    obtain ⟨e', he⟩ : ∃ e, (readM c.l c.s size).e = e := ⟨_, rfl⟩
    have herr := hgood.err
    rw [he] at herr
    rw [hn] at hp4
    have htn5 : c.tot + n ≤ 65535 := by rw [htp]; omega
    have hal9 : aRound size c = ((c.read size).plus n, if e' = 0 then none else some e') := by unfold aRound; rw [hn, he]
    have hcat : B8 (dat.data.toList.take c.tot) ++ B8 ((c.s.data.drop c.s.pos).take n) = B8 (dat.data.toList.take (c.tot + n)) := by
      rw [← B8_append, hdd, ← htp, List.take_add]
    have HRD := Lib.hid hrd
    have HN1 := Lib.hid (And.intro hn he)
    have HG := Lib.hid g
    have HRS := Lib.hid hres
    have HPR := Lib.hid hprog
    have HGD := Lib.hid hgood
    have HREM := Lib.hid hrem
    have HL := Lib.hid hl
    have HO := Lib.hid hO
    have HAL := Lib.hid hal9
    have HCAT := Lib.hid hcat
    have HDD := Lib.hid hdd
    have HERR := Lib.hid herr
    clear hrd hn he g hres hok hprog hgood hrem hl hO hp1 hp2 hp3 hp4 hp6 hkk hW htp hdd hal9 hcat herr
    go_wp2_with fail
    refine HRD.out.mono ?_
    rintro e9 w2 ⟨ra, rc, r2, rfl, g2, hR2, hW2⟩
    rw [HN1.out.1, HN1.out.2]
    rw [HN1.out.1] at hR2
    have hrm := hR2.1.max
    have hrl := hR2.1.le
    unfold maxLen at hrm
    have G2 := Lib.hid (HG.out.trans (g2.mono (fun _ _ => trivial)))
    have HR2 := Lib.hid hR2
    have HW2 := Lib.hid hW2
    have HO2 := Lib.hid (HO.out.step g2 (by unfold KW2; omega))
    clear g2 hR2 hW2 HRD HG HO
    go_upto_region 5 with (at_builtin; go_must (refine wpList_append_row rfl _ _ 78 78 rfl 5 i0 (.int .u8 0) 1 1 under78 HY.out.1 HY.out.2.1 HY.out.2.2.1 HY.out.2.2.2 rfl rfl HO2.out.1 n (B8 ((c.s.data.drop c.s.pos).take n)) (Src.ofRd under78 HR2.out.1 (B8_one _)) (by unfold maxLen; omega) (by omega) (Nat.zero_le _) ?_; intro a' c' w4 hrow hgr hbk; have HROW := Lib.hid hrow; have HGR := Lib.hid hgr; have HBKK := Lib.hid hbk; clear hrow hgr hbk))
    obtain ⟨T9, hT9⟩ : ∃ T9, c.tot + n = T9 := ⟨_, rfl⟩
    have hrow := HROW.out
    rw [HCAT.out, hT9] at hrow
    have hrow2 := hrow.rd
    obtain ⟨r4, g4, hO4⟩ := HO2.out.appended G2.out.bound hrow HGR.out HBKK.out
    have HT9 := Lib.hid hT9
    have hW4 := HW2.out.step g4 (fun j hj => by omega) (by show (readM c.l c.s size).l.length ≤ 10; rw [HGD.out.len]; exact HL.out)
    have HW4 := Lib.hid hW4
    have HO4 := Lib.hid hO4
    have HG4 := Lib.hid (G2.out.trans (g4.mono (fun _ _ => trivial)))
    have hcv : ∀ o : ByteArray, dat.data.toList.take T9 = o.data.toList → (convert 78 9 (.slice a' T9 c')).run Tryd.prog w4 = .ok (.string o) w4 := fun o ho => by
      have h2 := conv_row hrow2
      rw [h2, ho]
    have hend : e' ≠ 0 → dat.data.toList.take T9 = out.data.toList ∧ e = (if e' = -1 then 0 else e') := fun h0 => by
      have h1 : Res = ((c.read size).plus n, e') := by rw [← HRS.out, runM_stop (e := e') (by rw [HAL.out, if_neg h0]), HAL.out]
      have h2 := HOUT.out
      rw [h1] at h2
      unfold allOut at h2
      obtain ⟨h3, h4⟩ := Prod.mk.inj h2
      refine ⟨?_, h4.symm⟩
      rw [← h3, ← HT9.out]
      rfl
    clear hrow hrow2 g4 hO4 hW4 hT9 HROW HGR HBKK G2 HR2 HW2 HO2
    rw [HT9.out]
    have hTle : T9 ≤ 65535 := by have := HT9.out; omega
    by_cases he0 : e' = 0
    · subst he0
      clear hcv hend
      have hfin : ARel Res p size wb X (freshT [] 0 false) dat.data.toList w f (.slice a' T9 c') w4 := by
        have hz : (readM c.l c.s size).e = 0 := HN1.out.2
        obtain ⟨k1, k2, k3⟩ := HPR.out hz
        have hnone : (aRound size c).2 = none := by rw [HAL.out, if_pos rfl]
        have hrr : runM (aRound size) f (aRound size c).1 = Res := by rw [← HRS.out, runM_more hnone]
        rw [HAL.out] at k1 k2 k3 hrr
        have e1 : ((c.read size).plus n).tot = T9 := HT9.out
        refine ⟨(c.read size).plus n, r4, a', c', by rw [e1], HG4.out, HW4.out, by rw [e1]; exact HO4.out, k1, k3, HGD.out.data.trans HDD.out, ?_, ?_, hrr⟩
        · show (readM c.l c.s size).l.length ≤ 10
          rw [HGD.out.len]; exact HL.out
        · have := HREM.out; dsimp only at k2; omega
      have HFIN := Lib.hid hfin
      clear hfin
      go_wp2_with fail
      go_roundw
      case rel => exact ⟨f, HFIN.out⟩
      case measure => exact Nat.lt_of_le_of_lt (least_le HFIN.out) (by have := HLE.out; omega)
    · obtain ⟨h1, h2⟩ := hend he0
      have hcv2 := hcv out h1
      by_cases he1 : e' = -1
      · subst he1
        rw [if_pos rfl] at h2
        subst h2
        clear hcv hend h1
        go_wp2_with fail
        refine bodyPost_ret (v := .tuple #[.string out, .int .i64 0]) (by simp [results, Tryd.f25, go_sem]) rfl ?_
        exact ⟨rfl, HG4.out.below (Nat.le_refl _) (fun _ _ => rfl)⟩
      · rw [if_neg he1] at h2
        subst h2
        have k1 : (e == -1) = false := by simpa using he1
        have k2 : (e == 0) = false := by simpa using he0
        clear hcv hend h1 he0 he1
        go_wp2_with fail
        refine bodyPost_ret (v := .tuple #[.string out, .int .i64 e]) (by simp [results, Tryd.f25, go_sem]) rfl ?_
        exact ⟨rfl, HG4.out.below (Nat.le_refl _) (fun _ _ => rfl)⟩

def ALRel (Res : Cp × Int) (p size : Nat) (sh : Sh) (rv : Value) (eb : Nat) (dat : Bytes) (ba : Option Addr) (w0 : World) (f : Nat) (o : Value) (wx : World) : Prop :=
  ∃ c rx xs a cap, o = .slice a c.tot cap ∧ Step (fun _ => True) w0 free wx rx ∧ RowK wx rx 31 1 ba size size xs ∧ RowK wx rx 2000 1 a c.tot cap (B8 (dat.take c.tot)) ∧ EOFat wx rx eb ∧ ETat wx rx ∧ CpOk p c ∧ c.tot = c.s.pos ∧ c.s.data = dat ∧ Chain wx rx sh rv c.l c.s ∧ c.l.length < 30 ∧ c.s.rem p < f ∧ runM (aRound size) f c = Res

set_option maxRecDepth 100000 in
set_option maxHeartbeats 8000000 in
theorem allN {eb p F size : Nat} {e : Int} {out : ByteArray} {dat : ByteArray} {sa pa : Option Addr} {sn sc pn pc : Nat} {zs : List Int} {early broken wrt : Bool} {ps : List Pp} {Res : Cp × Int} {w : World}
    (hZ : RdK w free none 1 sa sn sc (I3 zs)) (hP : Pipes w free pa pn pc ps) (hrd : ∀ x ∈ ps, x.rd = false) (hpn : pn ≤ 10) (hok : CpOk p ⟨upto ps pn, srcOf dat.data.toList zs early broken, [], freshT [] 0 false, 0⟩) (hsz1 : 1 ≤ size) (hsz2 : size ≤ 1000000)
    (hE : EOFat w free eb) (hET : ETat w free) (hF : (srcOf dat.data.toList zs early broken).rem p < F) (hres : runM (aRound size) F ⟨upto ps pn, srcOf dat.data.toList zs early broken, [], freshT [] 0 false, 0⟩ = Res) (hout : allOut dat.data.toList Res = (out.data.toList, e)) :
    Calls Tryd.prog 24 #[.agg #[.string dat, .slice sa sn sc, .bool early, .bool broken, .bool wrt, .slice pa pn pc], .int .i64 size] w (RV w (.tuple #[.string out, .int .i64 e])) := by
  have hd : dat.size ≤ 65535 := by have := hok.s.2.2.2; have h2 : dat.data.toList.length = dat.size := Array.length_toList; dsimp only [srcOf] at this; omega
  have hbnd : Bnd w free := fun _ _ => rfl
  obtain ⟨wq, hwq⟩ : ∃ wq, w.alloc (.cells #[.string dat, .slice sa sn sc, .bool early, .bool broken, .bool wrt, .slice pa pn pc] 25) = wq := ⟨_, rfl⟩
  have hq0 : Step (fun _ => False) w free wq free := by rw [← hwq]; exact (Step.refl _ hbnd).alloc _
  have hb1 : Blk wq w.heap.size [.string dat, .slice sa sn sc, .bool early, .bool broken, .bool wrt, .slice pa pn pc] := by rw [← hwq]; exact Blk.new _ _ _
  have hqs : wq.heap.size = w.heap.size + 1 := by rw [← hwq, sz_alloc]
  obtain ⟨wg, hwg⟩ : ∃ wg, wq.alloc (.cells #[.pointer none, .pointer none, .slice none 0 0, .slice none 0 0, .pointer none] 60) = wg := ⟨_, rfl⟩
  have hg0 : Step (fun k => k = 32) wq free wg (free.give wq.heap.size 32) := by rw [← hwg]; exact ((Step.refl _ hq0.bound).alloc _).give (Nat.le_refl _) (by rw [sz_alloc]; omega) rfl
  have hG : GearAt wg (free.give wq.heap.size 32) wq.heap.size (.pointer none) (.pointer none) (.pointer none) [] [] := by
    refine ⟨none, 0, 0, none, 0, 0, Own.give_same _ _ _, by rw [← hwg]; exact Blk.new _ _ _, ⟨Row.nil _ _ _, fun x hx => by cases hx⟩, ⟨Row.nil _ _ _, fun x hx => by cases hx⟩⟩
  have hwg0 := (hq0.mono (K' := fun k => k = 32) (fun _ h => h.elim)).trans hg0
  have hx1 := hb1.below (by rw [← hwg]; exact (Below.refl _ _).alloc (Nat.le_refl _) _ : Below wq.heap.size wq wg)
  have HWG0 := Lib.hid hwg0
  have HG := Lib.hid hG
  have HPW := Lib.hid (hP.step hwg0)
  have HZW := Lib.hid (hZ.step hwg0 (fun _ h => by cases h))
  have HEW := Lib.hid (hE.step hwg0)
  have HTE := Lib.hid (hET.step hwg0)
  have HOK := Lib.hid hok
  have HRES := Lib.hid hres
  have HOUT := Lib.hid hout
  have HRD := Lib.hid hrd
  have HF := Lib.hid hF
  have hplen := hP.len
  have c0 := hx1.cell 0 rfl
  have c1 := hx1.cell 1 rfl
  have c2 := hx1.cell 2 rfl
  have c3 := hx1.cell 3 rfl
  have c4 := hx1.cell 4 rfl
  have c5 := hx1.cell 5 rfl
  clear hx1 hb1 hq0 hg0 hG hwg0 hZ hP hE hET hok hres hrd hF hqs hbnd hout
  go_enter Tryd.func24, Tryd.ntmps24
  go_wp2_with fail
  clear hwq hwg c0 c1 c2 c3 c4 c5
  refine (sourceN HG.out HZW.out HPW.out HRD.out (by omega) hd HWG0.out.bound).mono ?_
  rintro e1 w1 ⟨v1, rfl, r1, sh, hsw, g1, hC1, hG1⟩
  have hul : (upto ps pn).length = pn := upto_len (by omega)
  obtain ⟨K0, rv0, hM⟩ := chainMeth hC1
  have hal := chainAlive hC1
  obtain ⟨T, x, hrvE, hm, hcf⟩ := id hM
  have hna := hal T x hrvE
  subst hrvE
  have hmk := run_make_row' (P := Tryd.prog) 78 5 (.int .u8 0) 1 under78 (by kernel_rfl) rfl .i64 .i64 size (by omega) (by omega)
  have hg1 : Step (fun k => k ≤ 34) w1 r1 (w1.alloc (.cells (madeCells #[.int .u8 0] size) 5)) (r1.give w1.heap.size 31) := ((Step.refl _ g1.bound).alloc _).give (Nat.le_refl _) (by simp) (by omega)
  have hg2 : Step (fun k => k = 31) w1 r1 (w1.alloc (.cells (madeCells #[.int .u8 0] size) 5)) (r1.give w1.heap.size 31) := ((Step.refl _ g1.bound).alloc _).give (Nat.le_refl _) (by simp) rfl
  have hrow : RowK (w1.alloc (.cells (madeCells #[.int .u8 0] size) 5)) (r1.give w1.heap.size 31) 31 1 (some ⟨w1.heap.size, 0, none⟩) size size (madeCells #[.int .u8 0] size).toList := by
    refine ⟨⟨by simp [size_madeCells], Nat.le_refl _, by unfold maxLen; omega, .inr ⟨_, _, rfl, Nat.zero_le _, by simp, fun j hj => ?_, fun j hj => ⟨?_, ?_⟩⟩⟩, fun b hb => ?_⟩
    · simp
    · rw [Nat.mul_one] at hj
      have : j < (madeCells #[Value.int .u8 0] size).size := by rw [size_madeCells]; exact hj
      simp [this]
    · exact World.frozen?_new _ _ _ _
    · cases hb; exact Own.give_same _ _ _
  have hstep : Step (fun k => k ≤ 34) w free (w1.alloc (.cells (madeCells #[.int .u8 0] size) 5)) (r1.give w1.heap.size 31) := ((HWG0.out.mono (fun k hk => by omega)).trans (g1.mono (fun k hk => by unfold KG at hk; omega))).trans hg1
  have hrel0 : ALRel Res p size sh (.iface T x) eb dat.data.toList (some ⟨w1.heap.size, 0, none⟩) w F (.slice none 0 0) (w1.alloc (.cells (madeCells #[.int .u8 0] size) 5)) := by
    refine ⟨⟨upto ps pn, srcOf dat.data.toList zs early broken, [], freshT [] 0 false, 0⟩, _, _, none, 0, rfl, hstep.mono (fun _ _ => trivial), hrow, RowK.nilK _ _ _ _, (HEW.out.step g1).step hg1, (HTE.out.step g1).step hg1, HOK.out, rfl, rfl, hC1.step hg2 (fun k hk e => by omega) (by omega), (by show (upto ps pn).length < 30; omega), HF.out, HRES.out⟩
  have HREL0 := Lib.hid hrel0
  have HM := Lib.hid hM
  obtain ⟨eo, heo⟩ : ∃ eo, EOFv eb = eo := ⟨_, rfl⟩
  have HEO := Lib.hid heo
  clear hrel0 hrow hg1 hg2 hstep hM hC1 hG1 g1 hul heo hsw hal
  go_wp2_with fail
  generalize (w1.alloc (.cells (madeCells #[.int .u8 0] size) 5)) = wa at HREL0 ⊢
  generalize hba : (some ⟨w1.heap.size, 0, none⟩ : Option Addr) = ba at HREL0 ⊢
  clear hba
  obtain ⟨i0, u8i, u8z, u8s, u8b⟩ := u8Info
  have HY := Lib.hid (And.intro u8i (And.intro u8z (And.intro u8s u8b)))
  clear u8i u8z u8s u8b
  go_loopw [8] (fun t wb' => ∃ f, ALRel Res p size sh (.iface T x) eb dat.data.toList ba w f t wb') (fun t wb' => Go.Proofs.YtigfgdefgnahpaaDoor.least (fun f => ALRel Res p size sh (.iface T x) eb dat.data.toList ba w f t wb'))
  case atStart => exact ⟨F, HREL0.out⟩
  case round =>
    obtain ⟨f, hf, hle⟩ : ∃ f, ALRel Res p size sh (.iface T x) eb dat.data.toList ba w f u8 wr ∧ f ≤ Go.Proofs.YtigfgdefgnahpaaDoor.least (fun f => ALRel Res p size sh (.iface T x) eb dat.data.toList ba w f u8 wr) := ⟨_, least_spec hrel, Nat.le_refl _⟩
    have HLEM := Lib.hid hle
    clear hle hrel HREL0
    obtain ⟨c, rx, xs, ao, co, rfl, g, hB, hO, hEE, hTT, hok, htp, hdd, hC, hl30, hrem, hres⟩ := hf
    obtain ⟨f, rfl⟩ : ∃ f', f = f' + 1 := ⟨f - 1, by omega⟩
    have hgood := readM_good c.l c.s size hok.s hok.l
    have hp1 := hok.s.2.2.1
    have hp2 := hok.s.2.2.2
    have hp3 := hgood.ok.2.2.1
    rw [hgood.data] at hp3
    have hp4 := hgood.bytes
    have hp6 := hgood.pos
    have hn1 := hgood.le
    have hkk := hok.kk
    have hrd := chainRead (eb := eb) c.l hC hok.s hok.l (by omega) (m := size) (by omega) hB (by omega) (by omega) hl30 hEE g.bound HM.out
    have hprog := fun h => aRound_ok hok hsz1 htp h
    obtain ⟨n, hn⟩ : ∃ n, (readM c.l c.s size).n = n := ⟨_, rfl⟩
    obtain ⟨e', he⟩ : ∃ e, (readM c.l c.s size).e = e := ⟨_, rfl⟩
    have herr := hgood.err
    rw [he] at herr
    rw [hn] at hp4 hn1
    rw [hn, he] at hrd
    have htn5 : c.tot + n ≤ 65535 := by rw [htp]; omega
    have hni : (n : Int) ≤ size := by omega
    have hal9 : aRound size c = ((c.read size).plus n, if e' = 0 then none else some e') := by unfold aRound; rw [hn, he]
    have hcat : B8 (dat.data.toList.take c.tot) ++ B8 ((c.s.data.drop c.s.pos).take n) = B8 (dat.data.toList.take (c.tot + n)) := by
      rw [← B8_append, hdd, ← htp, List.take_add]
    obtain ⟨ev1, hev1⟩ : ∃ v, errV eb e' = v := ⟨_, rfl⟩
    rw [hev1] at hrd
    have HRDX := Lib.hid hrd
    have HN1 := Lib.hid (And.intro hn he)
    have HG := Lib.hid g
    have HRS := Lib.hid hres
    have HPR := Lib.hid hprog
    have HGD := Lib.hid hgood
    have HREM := Lib.hid hrem
    have HL30 := Lib.hid hl30
    have HO := Lib.hid hO
    have HAL := Lib.hid hal9
    have HCAT := Lib.hid hcat
    have HDD := Lib.hid hdd
    have HERR := Lib.hid herr
    have HEV := Lib.hid hev1
    have HEE := Lib.hid hEE
    have HTT := Lib.hid hTT
    clear hrd hn he g hres hok hprog hgood hrem hl30 hO hp1 hp2 hp3 hp4 hp6 hkk hC htp hdd hal9 hcat herr hev1 hB hEE hTT
    go_wp2_with fail
    refine HRDX.out.mono ?_
    rintro e9 w3 ⟨rfl, hGX⟩
    obtain ⟨r3, g3, hC3, ⟨ys, hy1, hy2⟩, hA3⟩ := hGX
    rw [HN1.out.1] at hy2
    have hbr := hy1.1.rd.max
    unfold maxLen at hbr
    have G3 := Lib.hid (HG.out.trans (g3.mono (fun _ _ => trivial)))
    have HO3 := Lib.hid (HO.out.step g3 (by have := HL30.out; omega))
    have HB3 := Lib.hid hy1
    have HC3 := Lib.hid hC3
    have HEE3 := Lib.hid (HEE.out.step g3)
    have HTT3 := Lib.hid (HTT.out.step g3)
    have hsrc : Rd w3 1 ba n size (B8 ((c.s.data.drop c.s.pos).take n)) := by
      have h9 := hy1.1.rd.take (k := n) (c := size) hn1 hn1 (Nat.le_refl _)
      rw [Nat.mul_one, hy2] at h9
      exact h9
    have HSRC := Lib.hid hsrc
    clear g3 hC3 hy1 hy2 hA3 HRDX HG HO hsrc
    go_upto_region 6 with (at_builtin; go_must (refine wpList_append_row rfl _ _ 78 78 rfl 5 i0 (.int .u8 0) 1 1 under78 HY.out.1 HY.out.2.1 HY.out.2.2.1 HY.out.2.2.2 rfl rfl HO3.out.1 n (B8 ((c.s.data.drop c.s.pos).take n)) (Src.ofRd under78 HSRC.out (B8_one _)) (by unfold maxLen; omega) (by omega) (Nat.zero_le _) ?_; intro a' c' w4 hrow hgr hbk; have HROW := Lib.hid hrow; have HGR := Lib.hid hgr; have HBKK := Lib.hid hbk; clear hrow hgr hbk))
    obtain ⟨T9, hT9⟩ : ∃ T9, c.tot + n = T9 := ⟨_, rfl⟩
    have hrow := HROW.out
    rw [HCAT.out, hT9] at hrow
    have hrow2 := hrow.rd
    obtain ⟨r4, g4, hO4⟩ := HO3.out.appended G3.out.bound hrow HGR.out HBKK.out
    have HT9 := Lib.hid hT9
    have HC4 := Lib.hid (HC3.out.step g4 (fun k hk h => by have h9 := HL30.out; have h8 := HGD.out.len; omega) (by omega))
    have HB4 := Lib.hid (HB3.out.step g4 (by omega))
    have HEE4 := Lib.hid (HEE3.out.step g4)
    have HTT4 := Lib.hid (HTT3.out.step g4)
    have HO4 := Lib.hid hO4
    have HG4 := Lib.hid (G3.out.trans (g4.mono (fun _ _ => trivial)))
    have HRW := Lib.hid hrow2
    have hend : e' ≠ 0 → dat.data.toList.take T9 = out.data.toList ∧ e = (if e' = -1 then 0 else e') := fun h0 => by
      have h1 : Res = ((c.read size).plus n, e') := by rw [← HRS.out, runM_stop (e := e') (by rw [HAL.out, if_neg h0]), HAL.out]
      have h2 := HOUT.out
      rw [h1] at h2
      unfold allOut at h2
      obtain ⟨h3, h4⟩ := Prod.mk.inj h2
      refine ⟨?_, h4.symm⟩
      rw [← h3, ← HT9.out]
      rfl
    have q1 : ∀ w, (binOp .eql 68 ev1 eo).run Tryd.prog w = .ok (.bool (e' == -1)) w := fun w => by
      rw [← HEV.out, ← HEO.out]; exact eqE eb HERR.out w
    have gq1 : ∀ a b w, (eqGuard .eql 68 a b ev1 eo).run Tryd.prog w = .ok () w := fun a b w => by rw [← HEV.out, ← HEO.out]; exact gdE eb HERR.out a b w
    have cE := HEE4.out.2.2
    rw [HEO.out] at cE
    clear hrow hrow2 g4 hO4 hT9 HROW HGR HBKK G3 HB3 HC3 HO3 HEE3 HTT3 HSRC
    rw [HT9.out]
    have hTle : T9 ≤ 65535 := by have := HT9.out; omega
    by_cases he0 : e' = 0
    · subst he0
      have hev0 : ev1 = .nilIface := by rw [← HEV.out]; rfl
      subst hev0
      have q1' : ∀ w, (binOp .eql 68 .nilIface eo).run Tryd.prog w = .ok (.bool false) w := q1
      have hfin : ALRel Res p size sh (.iface T x) eb dat.data.toList ba w f (.slice a' T9 c') w4 := by
        have hz : (readM c.l c.s size).e = 0 := HN1.out.2
        obtain ⟨k1, k2, k3⟩ := HPR.out hz
        have hnone : (aRound size c).2 = none := by rw [HAL.out, if_pos rfl]
        have hrr : runM (aRound size) f (aRound size c).1 = Res := by rw [← HRS.out, runM_more hnone]
        rw [HAL.out] at k1 k2 k3 hrr
        have e1 : ((c.read size).plus n).tot = T9 := HT9.out
        refine ⟨(c.read size).plus n, r4, ys, a', c', by rw [e1], HG4.out, HB4.out, by rw [e1]; exact HO4.out, HEE4.out, HTT4.out, k1, k3, HGD.out.data.trans HDD.out, HC4.out, ?_, ?_, hrr⟩
        · show (readM c.l c.s size).l.length < 30
          rw [HGD.out.len]; exact HL30.out
        · have := HREM.out; dsimp only at k2; omega
      have HFIN := Lib.hid hfin
      clear hfin hend q1
      go_wp2_with fail
      go_roundw
      case rel => exact ⟨f, HFIN.out⟩
      case measure => exact Nat.lt_of_le_of_lt (least_le HFIN.out) (by have := HLEM.out; omega)
    · obtain ⟨h1, h2⟩ := hend he0
      have hcv2 : ∀ wx, Rd wx 1 a' T9 c' (B8 (dat.data.toList.take T9)) → (convert 78 9 (.slice a' T9 c')).run Tryd.prog wx = .ok (.string out) wx := fun wx hx => by
        rw [h1] at hx
        exact conv_row hx
      by_cases he1 : e' = -1
      · subst he1
        rw [if_pos rfl] at h2
        subst h2
        have q1' : ∀ w, (binOp .eql 68 ev1 eo).run Tryd.prog w = .ok (.bool true) w := q1
        have hcv3 := hcv2 w4 HRW.out
        clear hend h1 q1 hcv2
        go_wp2_with fail
        refine bodyPost_ret (v := .tuple #[.string out, .int .i64 0]) (by simp [results, Tryd.f24, go_sem]) rfl ?_
        exact ⟨rfl, HG4.out.below (Nat.le_refl _) (fun _ _ => rfl)⟩
      · rw [if_neg he1] at h2
        subst h2
        have hf1 : (e == -1) = false := by simpa using he1
        have q1' : ∀ w, (binOp .eql 68 ev1 eo).run Tryd.prog w = .ok (.bool false) w := fun w => by rw [← hf1]; exact q1 w
        have hf2 : (!(e == 0)) = true := by simpa using he0
        have q2 : ∀ w, (binOp .neq 68 ev1 .nilIface).run Tryd.prog w = .ok (.bool true) w := fun w => by rw [← HEV.out, ← hf2]; exact neN eb HERR.out w
        have gq2 : ∀ a w, (eqGuard .neq 68 a (.const .nilIface) ev1 .nilIface).run Tryd.prog w = .ok () w := fun a w => by rw [← HEV.out]; exact gdN eb HERR.out a w
        have hevv : ev1 = .iface 33 (.int .i64 e) := by rw [← HEV.out]; unfold errV; rw [if_neg he0, if_neg he1]
        subst hevv
        have hkeep : ∀ wx, Below w4.heap.size w4 wx → Rd wx 1 a' T9 c' (B8 (dat.data.toList.take T9)) := fun wx hb => HRW.out.below hb
        have HKEEP := Lib.hid hkeep
        have hetc : ∀ wx, Below w4.heap.size w4 wx → wx.cell? ⟨1, 0, none⟩ = some (.iface 157 (.agg #[.pointer (some ⟨2, 68, none⟩)])) := fun wx hb => cellAt hb HTT4.out.2.2
        have ETC := Lib.hid hetc
        clear hend h1 q1 hf1 hf2 he0 he1 hkeep hetc
        go_wp2_with fail
        go_region_held3 (fun wx : World => Rd wx 1 a' T9 c' (B8 (dat.data.toList.take T9)))
          (first | (refine HKEEP.out _ ?_; repeat (first | exact Below.refl _ _ | refine Below.drew ?_ | refine Below.alloc ?_ (by first | (simp; done) | (simp; omega)) _)))
          (first
            | (go_simp; go_at_call 42; refine (numberEx e _ (ETC.out _ (by repeat (first | exact Below.refl _ _ | refine Below.drew ?_ | refine Below.alloc ?_ (by first | (simp; done) | (simp; omega)) _)))).mono ?_; rintro e2 w2 ⟨rfl, rfl⟩; unfold numW))
        all_goals
          go_wp2_with fail
          refine bodyPost_ret (v := .tuple #[.string out, .int .i64 e]) (by simp [results, Tryd.f24, go_sem]) rfl ?_
          refine ⟨rfl, ((HG4.out.below (Nat.le_refl _) (fun _ _ => rfl)).trans (Below.mono (B := w4.heap.size) ?_ HG4.out.size))⟩
          repeat (first | exact Below.refl _ _ | refine Below.drew ?_ | refine Below.alloc ?_ (by first | (simp; done) | (simp; omega)) _)
end Go.Proofs.YtigfgdefgnahpaaDoor
