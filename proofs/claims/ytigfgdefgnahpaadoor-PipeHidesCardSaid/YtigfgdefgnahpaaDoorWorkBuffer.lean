/-
  The walk of Work's buffer (the document's). Not a statement of the seat.
-/
import Derived.Test.YtigfgdefgnahpaaDoorWorkRead
import Derived.Test.YtigfgdefgnahpaaDoorBuffered
namespace Go.Proofs.YtigfgdefgnahpaaDoor
open Go.RowKit

/-- the counts of a sink's wrappers, by their places -/
def ksOf (k : List KW) : List Int := k.reverse.map (·.2)
theorem sunk_ks' (n : Nat) : ∀ (qs : List Pp) (k : List KW), k.map (·.1) = qs.map (fun q => q.op == 2) → sunkM qs n (k.map (·.2)) = (k.map (addK n)).map (·.2)
  | [], [], _ => rfl
  | [], _ :: _, h => by simp at h
  | _ :: _, [], h => by simp at h
  | q :: qs, x :: k, h => by
    simp only [List.map_cons, List.cons.injEq] at h
    have ih := sunk_ks' n qs k h.2
    unfold sunkM at ih ⊢
    simp only [List.map_cons, List.zipWith_cons_cons, ih]
    congr 1
    unfold addK
    rw [h.1]
    by_cases h2 : q.op = 2
    · simp [h2]
    · simp [h2]
theorem sunk_ks {qs : List Pp} {k : List KW} (n : Nat) (h : k.reverse.map (·.1) = qs.map (fun q => q.op == 2)) : sunkM qs n (ksOf k) = ksOf (k.map (addK n)) := by
  unfold ksOf
  rw [sunk_ks' n qs k.reverse h, ← List.map_reverse]
/-- the document's state, as a copying's -/
def WCp (w : World) (r : Own) (wb : Nat) (X : Wk) (c : Cp) : Prop := WorkAt w r wb X c.l c.s (ksOf c.k) c.t ∧ c.k.reverse.map (·.1) = X.qs.map (fun q => q.op == 2)
def WRel (round : Cp → Cp × Option Int) (Res : Cp × Int) (p wb : Nat) (X : Wk) (w0 : World) (r0 : Own) (f : Nat) (t : Value) (wx : World) : Prop :=
  ∃ c rx, t = .int .i64 (c.tot : Int) ∧ Step KW3 w0 r0 wx rx ∧ WCp wx rx wb X c ∧ CpOk p c ∧ c.l.length ≤ 100 ∧ c.s.rem p < f ∧ runM round f c = Res
def WEnd (Res : Cp) (wb : Nat) (X : Wk) (w0 : World) (r0 : Own) (w' : World) : Prop :=
  ∃ r', Step KW3 w0 r0 w' r' ∧ WCp w' r' wb X Res
theorem addK_fst' (n : Nat) (k : List KW) : (k.map (addK n)).reverse.map (·.1) = k.reverse.map (·.1) := by
  rw [← List.map_reverse, List.map_map]; rfl

set_option maxRecDepth 100000 in
set_option maxHeartbeats 4000000 in
theorem bufferR {c0 : Cp} {p m wb : Nat} {X : Wk} {w : World} {r : Own} {F : Nat} {Res : Cp × Int} {tot : Nat} {ev : Int}
    (hW0 : WCp w r wb X c0) (hok0 : CpOk p c0) (hl0 : c0.l.length ≤ 100) (hm1 : 1 ≤ m) (hm2 : m ≤ 1000000) (hbnd0 : Bnd w r) (ht0 : c0.tot = 0) (hF : c0.s.rem p < F)
    (hres0 : runM (bufRound m) F c0 = Res) (htot : Res.1.tot = tot) (hev : Res.2 = ev) :
    Calls Tryd.prog 37 #[.pointer (some ⟨wb, 0, none⟩), .int .i64 m] w (PostV (.tuple #[.int .i64 tot, .int .i64 ev]) (WEnd Res.1 wb X w r)) := by
  have hrel0 : WRel (bufRound m) Res p wb X w r F (.int .i64 0) w := ⟨c0, r, by rw [ht0]; rfl, Step.refl _ hbnd0, hW0, hok0, hl0, hF, hres0⟩
  have HREL0 := Lib.hid hrel0
  have HTOT := Lib.hid htot
  have HEV := Lib.hid hev
  clear hrel0 hW0 hok0 hF hres0 ht0 htot hev hl0
  clear c0
  go_enter Tryd.func37, Tryd.ntmps37
  go_wp2_with fail
  go_loopw [6] (fun t wb' => ∃ f, WRel (bufRound m) Res p wb X w r f t wb') (fun t wb' => least (fun f => WRel (bufRound m) Res p wb X w r f t wb'))
  case atStart => exact ⟨F, HREL0.out⟩
  case round =>
    obtain ⟨f, hf, hle⟩ : ∃ f, WRel (bufRound m) Res p wb X w r f u6 wr ∧ f ≤ least (fun f => WRel (bufRound m) Res p wb X w r f u6 wr) := ⟨_, least_spec hrel, Nat.le_refl _⟩
    have HLE := Lib.hid hle
    clear hle hrel HREL0
    obtain ⟨c, rx, rfl, g, ⟨hW, hkq⟩, hok, hl, hrem, hres⟩ := hf
    obtain ⟨f, rfl⟩ : ∃ f', f = f' + 1 := ⟨f - 1, by omega⟩
    have hgood := readM_good c.l c.s m hok.s hok.l
    have hgl := got_length hok m
    have hp1 := hok.s.2.2.1
    have hp2 := hok.s.2.2.2
    have hp3 := hgood.ok.2.2.1
    rw [hgood.data] at hp3
    have hp4 := hgood.bytes
    have hkk := hok.kk
    have htb := hok.tot
    have hrd := readR hW hok.s hok.l (by omega) hm2 hl g.bound
    have hprog := bufRound_ok hok hm1
    have hthas := hok.has
    have htk := hok.tk
    have htb2 : c.tot ≤ 65535 := by omega
    have hn65 : (readM c.l c.s m).n ≤ 65535 := by omega
    have hth2 : c.t.has.length + (readM c.l c.s m).n ≤ 500000 := by omega
    have htk2 : c.t.k < 100000000000 := by omega
    have hks : ∀ y ∈ ksOf c.k, 0 ≤ y ∧ y ≤ 1000000 := by
      intro y hy
      unfold ksOf at hy
      obtain ⟨x, hx, rfl⟩ := List.mem_map.1 hy
      have := hok.k x (by simpa using hx)
      omega
    obtain ⟨n, hn⟩ : ∃ n, (readM c.l c.s m).n = n := ⟨_, rfl⟩
    obtain ⟨e, he⟩ : ∃ e, (readM c.l c.s m).e = e := ⟨_, rfl⟩
    have hgl' : (c.got m).length = n := by rw [hgl, hn]
    rw [hn] at hn65 hth2
    have HRD := Lib.hid hrd
    have HN1 := Lib.hid hn
    have HE1 := Lib.hid he
    have HG := Lib.hid g
    have HRES := Lib.hid hres
    have HOK := Lib.hid hok
    have HPR := Lib.hid hprog
    have HGL := Lib.hid hgl'
    have HGD := Lib.hid hgood
    have HREM := Lib.hid hrem
    have HL := Lib.hid hl
    have HKQ := Lib.hid hkq
    have HKS := Lib.hid hks
    have HTH := Lib.hid hth2
    have HTK := Lib.hid htk2
    clear hrd hn he g hres hok hprog hgl hgl' hgood hrem hl hkq hks hp1 hp2 hp3 hp4 hkk htb hthas htk hth2 htk2 hW
    go_wp2_with fail
    refine HRD.out.mono ?_
    rintro e' w2 ⟨ra, rc, r2, rfl, g2, hR2, hW2⟩
    rw [HN1.out, HE1.out]
    rw [HN1.out] at hR2
    have g3 : Step KW3 w r w2 r2 := HG.out.trans (g2.mono (fun j hj => by first | exact hj.elim | (unfold KW2 at hj; unfold KW3; omega) | (unfold KW3; omega)))
    have hrl := hR2.1.le
    have hrm := hR2.1.max
    unfold maxLen at hrm
    have G3 := Lib.hid g3
    have HR2 := Lib.hid hR2
    have HW2 := Lib.hid hW2
    clear HRD HG g2 g3 hR2 hW2
    by_cases hn0 : n = 0
    · have hn0' : decide ((n : Int) > 0) = false := by simp; omega
      have hn0'' : decide (0 < n) = false := by simp; omega
      subst hn0
      by_cases he1 : e = -1
      · subst he1
        have hbf : bufRound m c = (c.read m, some 0) := by rw [buf0 HN1.out, HE1.out]; rfl
        have hR : Res = (c.read m, 0) := by rw [← HRES.out, runM_stop (e := 0) (by rw [hbf]), hbf]
        have ht : tot = (c.read m).tot := by rw [← HTOT.out, hR]
        have hv : ev = 0 := by rw [← HEV.out, hR]
        have HR := Lib.hid hR
        have HT := Lib.hid ht
        subst hv
        clear hR ht
        have hts : tot = c.tot := HT.out
        subst hts
        go_wp2
        refine bodyPost_ret (v := .tuple #[.int .i64 ((c.tot : Nat) : Int), .int .i64 0]) (by simp [results, Tryd.f37, go_sem]) rfl ?_
        exact ⟨rfl, r2, G3.out, by rw [HR.out]; exact ⟨HW2.out, HKQ.out⟩⟩
      · by_cases he0 : e = 0
        · subst he0
          have hbf : bufRound m c = (c.read m, none) := by rw [buf0 HN1.out, HE1.out]; rfl
          have hnone : (bufRound m c).2 = none := by rw [hbf]
          obtain ⟨k1, k2⟩ := HPR.out hnone
          have hrr : runM (bufRound m) f (bufRound m c).1 = Res := by rw [← HRES.out, runM_more hnone]
          rw [hbf] at k1 k2 hrr
          have hfin : ∀ tv, tv = Value.int .i64 ((c.tot : Nat) : Int) → WRel (bufRound m) Res p wb X w r f tv w2 := fun tv htv =>
            ⟨c.read m, r2, htv, G3.out, ⟨HW2.out, HKQ.out⟩, k1, by show (readM c.l c.s m).l.length ≤ 100; rw [HGD.out.len]; exact HL.out, by have := HREM.out; dsimp only at k2; omega, hrr⟩
          have HFIN := Lib.hid (hfin _ rfl)
          clear hbf hnone k1 k2 hrr hfin he1
          go_wp2
          go_roundw
          case rel => exact ⟨f, HFIN.out⟩
          case measure => exact Nat.lt_of_le_of_lt (least_le HFIN.out) (by have := HLE.out; omega)
        · have hbf : bufRound m c = (c.read m, some e) := by rw [buf0 HN1.out, HE1.out]; unfold tailE; rw [if_neg he1, if_neg he0]
          have he1' : (e == -1) = false := by simpa using he1
          have he0' : (e != 0) = true := by simpa using he0
          clear he1 he0
          have hR : Res = (c.read m, e) := by rw [← HRES.out, runM_stop (e := e) (by rw [hbf]), hbf]
          have ht : tot = (c.read m).tot := by rw [← HTOT.out, hR]
          have hv : ev = e := by rw [← HEV.out, hR]
          have HR := Lib.hid hR
          have HT := Lib.hid ht
          subst hv
          clear hR ht
          have hts : tot = c.tot := HT.out
          subst hts
          go_wp2
          refine bodyPost_ret (v := .tuple #[.int .i64 ((c.tot : Nat) : Int), .int .i64 ev]) (by simp [results, Tryd.f37, go_sem]) rfl ?_
          exact ⟨rfl, r2, G3.out, by rw [HR.out]; exact ⟨HW2.out, HKQ.out⟩⟩
    · have hn0' : decide ((n : Int) > 0) = true := by simp; omega
      have hn0'' : decide (0 < n) = true := by simp; omega
      have hn0z : (readM c.l c.s m).n ≠ 0 := by rw [HN1.out]; exact hn0
      obtain ⟨said, hsaid⟩ : ∃ said, c.t.said n = said := ⟨_, rfl⟩
      obtain ⟨v, hv⟩ : ∃ v : Int, (if c.t.full n = true then (362 : Int) else 0) = v := ⟨_, rfl⟩
      have hwr := workWriteR (said := said) (v := v) (bs := c.got m) HW2.out HOK.out.t (by have := HR2.out; unfold Cp.got; rw [HN1.out]; exact this) (by rw [HGL.out]; exact HTH.out) HTK.out HKS.out G3.out.bound (by rw [HGL.out]; exact hsaid) (by rw [HGL.out]; exact hv)
      have hsdle : said ≤ n + 1 := by
        rw [← hsaid]
        have := took_le c.t n
        unfold Tank.said
        split
        · omega
        · split <;> omega
      have HWR := Lib.hid hwr
      have HSD := Lib.hid hsaid
      have HVV := Lib.hid hv
      have HN0 := Lib.hid hn0z
      clear hwr hsaid hn0z
      go_wp2_with fail
      refine HWR.out.mono ?_
      rintro e' w3 ⟨rfl, r3, g4, hW3⟩
      have hwc : ∀ q, WCp w3 r3 wb X (((c.read m).put (c.got m)).plus q) := by
        intro q
        refine ⟨?_, ?_⟩
        · show WorkAt w3 r3 wb X (readM c.l c.s m).l (readM c.l c.s m).s (ksOf (c.k.map (addK (c.t.said (c.got m).length)))) (c.t.put (c.got m))
          rw [← sunk_ks _ HKQ.out]
          exact hW3
        · show (c.k.map (addK (c.t.said (c.got m).length))).reverse.map (·.1) = _
          rw [addK_fst']
          exact HKQ.out
      have g5 : Step KW3 w r w3 r3 := G3.out.trans (g4.mono (fun j hj => by first | exact hj.elim | (unfold KW2 at hj; unfold KW3; omega) | (unfold KW3; omega)))
      have G4 := Lib.hid g5
      have HWQ := Lib.hid hwc
      clear g4 hW3 g5 hwc
      by_cases h1 : n < said
      · have d1 : decide ((said : Int) > n) = true := by simp; omega
        have d1' : decide (n < said) = true := by simp; omega
        have HWC := Lib.hid (show WCp w3 r3 wb X ((c.read m).put (c.got m)) from HWQ.out c.tot)
        have HB1 := Lib.hid (buf1 HN0.out (by rw [HN1.out, HSD.out]; exact h1))
        clear h1 hv
        have hR : Res = (((c.read m).put (c.got m)), 361) := by rw [← HRES.out, runM_stop (e := 361) (by rw [HB1.out]), HB1.out]
        have ht : tot = (((c.read m).put (c.got m))).tot := by rw [← HTOT.out, hR]
        have hv : ev = 361 := by rw [← HEV.out, hR]
        have HR := Lib.hid hR
        have HT := Lib.hid ht
        subst hv
        clear hR ht
        have hts : tot = c.tot := HT.out
        subst hts
        go_wp2
        refine bodyPost_ret (v := .tuple #[.int .i64 ((c.tot : Nat) : Int), .int .i64 361]) (by simp [results, Tryd.f37, go_sem]) rfl ?_
        exact ⟨rfl, r3, G4.out, by rw [HR.out]; exact HWC.out⟩
      · have d1 : decide ((said : Int) > n) = false := by simp; omega
        have d1' : decide (n < said) = false := by simp; omega
        have d2 : decide ((said : Int) < 0) = false := by simp
        obtain ⟨T9, hT9⟩ : ∃ T9, c.tot + said = T9 := ⟨_, rfl⟩
        have hT9i : (c.tot : Int) + said = T9 := by omega
        have hT9b : T9 ≤ 1000000 := by omega
        have HT9 := Lib.hid hT9
        have HWC := Lib.hid (show WCp w3 r3 wb X (((c.read m).put (c.got m)).plus (c.t.said n)) from HWQ.out _)
        have HT9' := Lib.hid (show ((((c.read m).put (c.got m)).plus (c.t.said n))).tot = T9 by rw [← HT9.out, ← HSD.out]; rfl)
        have HNL := Lib.hid (show ¬ (readM c.l c.s m).n < c.t.said (readM c.l c.s m).n by rw [HN1.out, HSD.out]; exact h1)
        clear h1 hT9
        by_cases hf : c.t.full n = true
        · have hv1 : v = 362 := by rw [← hv, if_pos hf]
          have HB1 := Lib.hid (show bufRound m c = ((((c.read m).put (c.got m)).plus (c.t.said n)), some 362) by rw [buf2 HN0.out HNL.out (by rw [HN1.out]; exact hf), HN1.out])
          subst hv1
          clear hf hv
          have hR : Res = ((((c.read m).put (c.got m)).plus (c.t.said n)), 362) := by rw [← HRES.out, runM_stop (e := 362) (by rw [HB1.out]), HB1.out]
          have ht : tot = ((((c.read m).put (c.got m)).plus (c.t.said n))).tot := by rw [← HTOT.out, hR]
          have hv : ev = 362 := by rw [← HEV.out, hR]
          have HR := Lib.hid hR
          have HT := Lib.hid ht
          subst hv
          clear hR ht
          have hts : tot = T9 := HT.out.trans HT9'.out
          subst hts
          go_wp2
          refine bodyPost_ret (v := .tuple #[.int .i64 ((tot : Nat) : Int), .int .i64 362]) (by simp [results, Tryd.f37, go_sem]) rfl ?_
          exact ⟨rfl, r3, G4.out, by rw [HR.out]; exact HWC.out⟩
        · have hv1 : v = 0 := by rw [← hv, if_neg hf]
          have HNF := Lib.hid (show ¬ c.t.full (readM c.l c.s m).n = true by rw [HN1.out]; exact hf)
          subst hv1
          clear hf hv
          by_cases h3 : said < n
          · have d3 : decide ((said : Int) < n) = true := by simp; omega
            have d3' : decide (said < n) = true := by simp; omega
            have HB1 := Lib.hid (show bufRound m c = ((((c.read m).put (c.got m)).plus (c.t.said n)), some 360) by rw [buf3 HN0.out HNL.out HNF.out (by rw [HN1.out, HSD.out]; exact h3), HN1.out])
            clear h3
            have hR : Res = ((((c.read m).put (c.got m)).plus (c.t.said n)), 360) := by rw [← HRES.out, runM_stop (e := 360) (by rw [HB1.out]), HB1.out]
            have ht : tot = ((((c.read m).put (c.got m)).plus (c.t.said n))).tot := by rw [← HTOT.out, hR]
            have hv : ev = 360 := by rw [← HEV.out, hR]
            have HR := Lib.hid hR
            have HT := Lib.hid ht
            subst hv
            clear hR ht
            have hts : tot = T9 := HT.out.trans HT9'.out
            subst hts
            go_wp2
            refine bodyPost_ret (v := .tuple #[.int .i64 ((tot : Nat) : Int), .int .i64 360]) (by simp [results, Tryd.f37, go_sem]) rfl ?_
            exact ⟨rfl, r3, G4.out, by rw [HR.out]; exact HWC.out⟩
          · have d3 : decide ((said : Int) < n) = false := by simp; omega
            have d3' : decide (said < n) = false := by simp; omega
            have HB1 := Lib.hid (show bufRound m c = ((((c.read m).put (c.got m)).plus (c.t.said n)), tailE (readM c.l c.s m).e) by rw [buf4 HN0.out HNL.out HNF.out (by rw [HN1.out, HSD.out]; exact h3), HN1.out])
            clear h3
            by_cases he1 : e = -1
            · subst he1
              have hbf : bufRound m c = ((((c.read m).put (c.got m)).plus (c.t.said n)), some 0) := by rw [HB1.out, HE1.out]; rfl
              have hR : Res = ((((c.read m).put (c.got m)).plus (c.t.said n)), 0) := by rw [← HRES.out, runM_stop (e := 0) (by rw [hbf]), hbf]
              have ht : tot = ((((c.read m).put (c.got m)).plus (c.t.said n))).tot := by rw [← HTOT.out, hR]
              have hv : ev = 0 := by rw [← HEV.out, hR]
              have HR := Lib.hid hR
              have HT := Lib.hid ht
              subst hv
              clear hR ht
              have hts : tot = T9 := HT.out.trans HT9'.out
              subst hts
              go_wp2
              refine bodyPost_ret (v := .tuple #[.int .i64 ((tot : Nat) : Int), .int .i64 0]) (by simp [results, Tryd.f37, go_sem]) rfl ?_
              exact ⟨rfl, r3, G4.out, by rw [HR.out]; exact HWC.out⟩
            · by_cases he0 : e = 0
              · subst he0
                have hbf : bufRound m c = ((((c.read m).put (c.got m)).plus (c.t.said n)), none) := by rw [HB1.out, HE1.out]; rfl
                have hnone : (bufRound m c).2 = none := by rw [hbf]
                obtain ⟨k1, k2⟩ := HPR.out hnone
                have hrr : runM (bufRound m) f (bufRound m c).1 = Res := by rw [← HRES.out, runM_more hnone]
                rw [hbf] at k1 k2 hrr
                have hfin : ∀ tv, tv = Value.int .i64 ((T9 : Nat) : Int) → WRel (bufRound m) Res p wb X w r f tv w3 := fun tv htv =>
                  ⟨(((c.read m).put (c.got m)).plus (c.t.said n)), r3, htv.trans (by rw [← HT9'.out]), G4.out, HWC.out, k1, by show (readM c.l c.s m).l.length ≤ 100; rw [HGD.out.len]; exact HL.out, by have := HREM.out; dsimp only at k2; omega, hrr⟩
                have HFIN := Lib.hid (hfin _ rfl)
                clear hbf hnone k1 k2 hrr hfin he1
                go_wp2
                go_roundw
                case rel => exact ⟨f, HFIN.out⟩
                case measure => exact Nat.lt_of_le_of_lt (least_le HFIN.out) (by have := HLE.out; omega)
              · have hbf : bufRound m c = ((((c.read m).put (c.got m)).plus (c.t.said n)), some e) := by rw [HB1.out, HE1.out]; unfold tailE; rw [if_neg he1, if_neg he0]
                have he1' : (e == -1) = false := by simpa using he1
                have he0' : (e != 0) = true := by simpa using he0
                clear he1 he0
                have hR : Res = ((((c.read m).put (c.got m)).plus (c.t.said n)), e) := by rw [← HRES.out, runM_stop (e := e) (by rw [hbf]), hbf]
                have ht : tot = ((((c.read m).put (c.got m)).plus (c.t.said n))).tot := by rw [← HTOT.out, hR]
                have hv : ev = e := by rw [← HEV.out, hR]
                have HR := Lib.hid hR
                have HT := Lib.hid ht
                subst hv
                clear hR ht
                have hts : tot = T9 := HT.out.trans HT9'.out
                subst hts
                go_wp2
                refine bodyPost_ret (v := .tuple #[.int .i64 ((tot : Nat) : Int), .int .i64 ev]) (by simp [results, Tryd.f37, go_sem]) rfl ?_
                exact ⟨rfl, r3, G4.out, by rw [HR.out]; exact HWC.out⟩
end Go.Proofs.YtigfgdefgnahpaaDoor
