/-
  The walk of the document's ReadAtLeast. Not a statement of the seat.
-/
import Derived.Test.YtigfgdefgnahpaaDoorAllM
namespace Go.Proofs.YtigfgdefgnahpaaDoor
open Go.RowKit

def LRel (least : Int) (size : Nat) (Res : Cp × Int) (p wb : Nat) (X : Wk) (t : Tank) (dat : Bytes) (w0 : World) (f : Nat) (o u : Value) (wx : World) : Prop :=
  ∃ c rx a cap e9, o = .slice a c.tot cap ∧ u = .int .i64 e9 ∧ Step (fun _ => True) w0 free wx rx ∧ RowK wx rx 2000 1 a c.tot cap (B8 (dat.take c.tot)) ∧ c.tot ≤ size ∧ c.tot ≤ 65535 ∧
    ((e9 = 0 ∧ WorkAt wx rx wb X c.l c.s [] t ∧ CpOk p c ∧ c.tot = c.s.pos ∧ c.s.data = dat ∧ c.l.length ≤ 10 ∧ c.s.rem p < f ∧ alM least size f c = Res) ∨ ((e9 = -1 ∨ e9 = 362 ∨ e9 = 363) ∧ Res = (c, e9)))

set_option maxRecDepth 100000 in
set_option maxHeartbeats 8000000 in
theorem atLeastR {p F size : Nat} {least e : Int} {out : ByteArray} {dat : ByteArray} {sa pa : Option Addr} {sn sc pn pc : Nat} {zs : List Int} {early broken wrt : Bool} {ps : List Pp} {Res : Cp × Int} {w : World}
    (hZ : RdK w free none 1 sa sn sc (I3 zs)) (hP : Pipes w free pa pn pc ps) (hpn : pn ≤ 10) (hok : CpOk p ⟨upto ps pn, srcOf dat.data.toList zs early broken, [], freshT [] 0 false, 0⟩) (hsz1 : 1 ≤ size) (hsz2 : size ≤ 1000000) (hle : least ≤ (size : Int))
    (hF : (srcOf dat.data.toList zs early broken).rem p < F) (hres : alM least size F ⟨upto ps pn, srcOf dat.data.toList zs early broken, [], freshT [] 0 false, 0⟩ = Res) (hout : alOut least dat.data.toList Res = (out.data.toList, e)) :
    Calls Tryd.prog 23 #[.agg #[.string dat, .slice sa sn sc, .bool early, .bool broken, .bool wrt, .slice pa pn pc], .int .i64 least, .int .i64 size] w (RV w (.tuple #[.string out, .int .i64 e])) := by
  obtain ⟨i0, hy0, hy1, hy2, hy3⟩ := u8Info
  have hbnd : Bnd w free := fun _ _ => rfl
  obtain ⟨wq, hwq⟩ : ∃ wq, w.alloc (.cells #[.string dat, .slice sa sn sc, .bool early, .bool broken, .bool wrt, .slice pa pn pc] 25) = wq := ⟨_, rfl⟩
  have hq0 : Step (fun _ => False) w free wq free := by rw [← hwq]; exact (Step.refl _ hbnd).alloc _
  have hb1 : Blk wq w.heap.size [.string dat, .slice sa sn sc, .bool early, .bool broken, .bool wrt, .slice pa pn pc] := by rw [← hwq]; exact Blk.new _ _ _
  have hst := startR (A := srcSa dat sa sn sc early broken wrt pa pn pc) (ps := ps) (qs := []) (tzs := []) hq0.bound (hP.step hq0) (nilPipes wq) (nilRdK wq) hpn (by show 0 ≤ 10; omega)
  have hst2 : Calls Tryd.prog 34 #[.agg #[.string dat, .slice sa sn sc, .bool early, .bool broken, .bool wrt, .slice pa pn pc], .agg #[.slice none 0 0, .int .i64 0, .bool false, .bool false, .int .i64 0, .slice none 0 0]] wq (StartP (srcSa dat sa sn sc early broken wrt pa pn pc) ps (freshT [] 0 false) wq free) := hst
  have HST := Lib.hid hst2
  have HPQ := Lib.hid (hP.step hq0)
  have HZQ := Lib.hid (hZ.step hq0 (fun _ h => by cases h))
  have HQ0 := Lib.hid hq0
  have HOK := Lib.hid hok
  have HF := Lib.hid hF
  have HRES := Lib.hid hres
  have HOUT := Lib.hid hout
  have HPL := Lib.hid hP.len
  have HY := Lib.hid (And.intro hy0 (And.intro hy1 (And.intro hy2 hy3)))
  have c0 := hb1.cell 0 rfl
  have c1 := hb1.cell 1 rfl
  have c2 := hb1.cell 2 rfl
  have c3 := hb1.cell 3 rfl
  have c4 := hb1.cell 4 rfl
  have c5 := hb1.cell 5 rfl
  clear hst hst2 hZ hP hok hF hres hout hq0 hb1 hbnd hy0 hy1 hy2 hy3
  have k0 : decide ((size : Int) < least) = false := by simp; omega
  have HLS := Lib.hid hle
  clear hle
  go_enter Tryd.func23, Tryd.ntmps23
  go_wp2_with fail
  clear hwq c0 c1 c2 c3 c4 c5
  refine HST.out.mono ?_
  rintro e1 w1 ⟨wb, r1, tb, sb, db, Rr, bl, rfl, g1, hs⟩
  have hwk := startWork rfl hs (HPQ.out.step g1) ((nilPipes wq).step g1) (HZQ.out.step g1 (fun _ h => by cases h))
  obtain ⟨X, hX⟩ : ∃ X, wkOf (srcSa dat sa sn sc early broken wrt pa pn pc) ps [] Rr tb bl = X := ⟨_, rfl⟩
  rw [hX] at hwk
  have hul : (upto ps pn).length = pn := upto_len (by rw [HPL.out]; omega)
  have hrel0 : LRel least size Res p wb X (freshT [] 0 false) dat.data.toList w F (.slice none 0 0) (.int .i64 0) w1 :=
    ⟨⟨upto ps pn, srcOf dat.data.toList zs early broken, [], freshT [] 0 false, 0⟩, r1, none, 0, 0, rfl, rfl, (HQ0.out.mono (fun _ h => h.elim)).trans (g1.mono (fun _ _ => trivial)), RowK.nilK _ _ _ _, Nat.zero_le _, Nat.zero_le _, .inl ⟨rfl, hwk.1, HOK.out, rfl, rfl, by show (upto ps pn).length ≤ 10; omega, HF.out, HRES.out⟩⟩
  have HREL0 := Lib.hid hrel0
  clear hrel0 hwk hs g1 hX hul HST HPQ HZQ HQ0 HPL
  go_wp2_with fail
  go_loopw [9, 10] (fun t u wb' => ∃ f, LRel least size Res p wb X (freshT [] 0 false) dat.data.toList w f t u wb') (fun t u wb' => Go.Proofs.YtigfgdefgnahpaaDoor.least (fun f => LRel least size Res p wb X (freshT [] 0 false) dat.data.toList w f t u wb'))
  case atStart => exact ⟨F, HREL0.out⟩
  case round =>
    obtain ⟨f, hf, hle⟩ : ∃ f, LRel least size Res p wb X (freshT [] 0 false) dat.data.toList w f u9 u10 wr ∧ f ≤ Go.Proofs.YtigfgdefgnahpaaDoor.least (fun f => LRel least size Res p wb X (freshT [] 0 false) dat.data.toList w f u9 u10 wr) := ⟨_, least_spec hrel, Nat.le_refl _⟩
    have HLE := Lib.hid hle
    clear hle hrel HREL0
    obtain ⟨c, rx, ao, co, e9, rfl, rfl, g, hO, hts, ht65, hcase⟩ := hf
    have hrun := Lib.hid (show ∀ o : ByteArray, dat.data.toList.take c.tot = o.data.toList → (convert 78 9 (.slice ao c.tot co)).run Tryd.prog wr = .ok (.string o) wr from fun o ho => by
      have h2 := conv_row hO.1.rd
      rw [h2, ho])
    have HG := Lib.hid g
    have HO := Lib.hid hO
    clear g hO
    rcases hcase with ⟨rfl, hW, hok, htp, hdd, hl, hrem, hres⟩ | ⟨he9, hres⟩
    · by_cases hlt : (c.tot : Int) < least
      · obtain ⟨f, rfl⟩ : ∃ f', f = f' + 1 := ⟨f - 1, by omega⟩
        have k1 : decide ((c.tot : Int) < least) = true := by simpa using hlt
        have htn : c.tot < size := by have := HLS.out; omega
        obtain ⟨m', hm'⟩ : ∃ m', size - c.tot = m' := ⟨_, rfl⟩
        have hmi : (size : Int) - (c.tot : Int) = m' := by omega
        have hgood := readM_good c.l c.s m' hok.s hok.l
        have hp1 := hok.s.2.2.1
        have hp2 := hok.s.2.2.2
        have hp3 := hgood.ok.2.2.1
        rw [hgood.data] at hp3
        have hp4 := hgood.bytes
        have hp6 := hgood.pos
        have hn1 := hgood.le
        have hkk := hok.kk
        have hrd := readR hW hok.s hok.l (by omega) (m := m') (by omega) (by omega) HG.out.bound
        have hprog := fun h => alRound_ok (size := size) hok htp htn h
        obtain ⟨n, hn⟩ : ∃ n, (readM c.l c.s m').n = n := ⟨_, rfl⟩
        obtain ⟨e', he⟩ : ∃ e, (readM c.l c.s m').e = e := ⟨_, rfl⟩
        have herr := hgood.err
        rw [he] at herr
        rw [hn] at hp4 hn1
        have htn5 : c.tot + n ≤ 65535 := by rw [htp]; omega
        have htns : c.tot + n ≤ size := by omega
        have hal9 : alRound size c = ((c.read m').plus n, if e' = 0 then none else some e') := by unfold alRound; rw [hm', hn, he]
        rw [hm'] at hprog
        have hcat : B8 (dat.data.toList.take c.tot) ++ B8 ((c.s.data.drop c.s.pos).take n) = B8 (dat.data.toList.take (c.tot + n)) := by
          rw [← B8_append, hdd, ← htp, List.take_add]
        have HRD := Lib.hid hrd
        have HN1 := Lib.hid (And.intro hn he)
        have HRS := Lib.hid hres
        have HPR := Lib.hid hprog
        have HGD := Lib.hid hgood
        have HREM := Lib.hid hrem
        have HL := Lib.hid hl
        have HAL := Lib.hid hal9
        have HCAT := Lib.hid hcat
        have HDD := Lib.hid hdd
        have HERR := Lib.hid herr
        have HLT := Lib.hid hlt
        have HTN := Lib.hid htns
        clear hrd hn he hres hok hprog hgood hrem hl hp1 hp2 hp3 hp4 hp6 hn1 hkk hW htp hdd hal9 hcat herr hrun hm' hlt htns
        go_wp2_with fail
        refine HRD.out.mono ?_
        rintro e9 w2 ⟨ra, rc, r2, rfl, g2, hR2, hW2⟩
        rw [HN1.out.1, HN1.out.2]
        rw [HN1.out.1] at hR2
        have hrm := hR2.1.max
        have hrl := hR2.1.le
        unfold maxLen at hrm
        have G2 := Lib.hid (HG.out.trans (g2.mono (fun _ _ => trivial)))
        have HR2 := Lib.hid hR2
        have HW2 := Lib.hid hW2
        have HO2 := Lib.hid (HO.out.step g2 (by unfold KW2; omega))
        clear g2 hR2 hW2 HRD HG HO hmi k1
        go_upto_region 9 with (at_builtin; go_must (refine wpList_append_row rfl _ _ 78 78 rfl 5 i0 (.int .u8 0) 1 1 under78 HY.out.1 HY.out.2.1 HY.out.2.2.1 HY.out.2.2.2 rfl rfl HO2.out.1 n (B8 ((c.s.data.drop c.s.pos).take n)) (Src.ofRd under78 HR2.out.1 (B8_one _)) (by unfold maxLen; omega) (by omega) (Nat.zero_le _) ?_; intro a' c' w4 hrow hgr hbk; have HROW := Lib.hid hrow; have HGR := Lib.hid hgr; have HBKK := Lib.hid hbk; clear hrow hgr hbk))
        obtain ⟨T9, hT9⟩ : ∃ T9, c.tot + n = T9 := ⟨_, rfl⟩
        have hrow := HROW.out
        rw [HCAT.out, hT9] at hrow
        obtain ⟨r4, g4, hO4⟩ := HO2.out.appended G2.out.bound hrow HGR.out HBKK.out
        have HT9 := Lib.hid hT9
        have hW4 := HW2.out.step g4 (fun j hj => by omega) (by show (readM c.l c.s m').l.length ≤ 10; rw [HGD.out.len]; exact HL.out)
        have HW4 := Lib.hid hW4
        have HO4 := Lib.hid hO4
        have HG4 := Lib.hid (G2.out.trans (g4.mono (fun _ _ => trivial)))
        clear hrow g4 hO4 hW4 hT9 HROW HGR HBKK G2 HR2 HW2 HO2
        rw [HT9.out]
        have hfin : ∃ f', f' ≤ f ∧ LRel least size Res p wb X (freshT [] 0 false) dat.data.toList w f' (.slice a' T9 c') (.int .i64 e') w4 := by
          have e1 : ((c.read m').plus n).tot = T9 := HT9.out
          have e2 : T9 ≤ size ∧ T9 ≤ 65535 := by have := HT9.out; have := HTN.out; omega
          by_cases he0 : e' = 0
          · have hz : (readM c.l c.s m').e = 0 := by rw [HN1.out.2]; exact he0
            obtain ⟨k1, k2, k3, k4⟩ := HPR.out hz
            have hnone : (alRound size c).2 = none := by rw [HAL.out, if_pos he0]
            have hrr : alM least size f (alRound size c).1 = Res := by rw [← HRS.out, alM_more HLT.out hnone]
            rw [HAL.out] at k1 k2 k3 hrr
            refine ⟨f, Nat.le_refl _, (c.read m').plus n, r4, a', c', e', by rw [e1], rfl, HG4.out, by rw [e1]; exact HO4.out, by rw [e1]; exact e2.1, by rw [e1]; exact e2.2, .inl ⟨he0, HW4.out, k1, k3, HGD.out.data.trans HDD.out, ?_, ?_, hrr⟩⟩
            · show (readM c.l c.s m').l.length ≤ 10
              rw [HGD.out.len]; exact HL.out
            · have := HREM.out; dsimp only at k2; omega
          · refine ⟨0, Nat.zero_le _, (c.read m').plus n, r4, a', c', e', by rw [e1], rfl, HG4.out, by rw [e1]; exact HO4.out, by rw [e1]; exact e2.1, by rw [e1]; exact e2.2, .inr ⟨?_, ?_⟩⟩
            · rcases HERR.out with h | h
              · exact (he0 h).elim
              · exact h
            · rw [← HRS.out, alM_stop (e := e') HLT.out (by rw [HAL.out, if_neg he0]), HAL.out]
        have HFIN := Lib.hid hfin
        clear hfin
        go_wp2_with fail
        go_roundw
        case rel =>
          obtain ⟨f', _, h⟩ := HFIN.out
          exact ⟨f', h⟩
        case measure =>
          obtain ⟨f', hle', h⟩ := HFIN.out
          exact Nat.lt_of_le_of_lt (least_le h) (by have := HLE.out; omega)
      · have k1 : decide ((c.tot : Int) < least) = false := by simpa using hlt
        have k2 : decide ((c.tot : Int) ≥ least) = true := by simp; omega
        have k2' : decide (least ≤ (c.tot : Int)) = true := by simp; omega
        have hR : Res = (c, 0) := by
          obtain ⟨f, rfl⟩ : ∃ f', f = f' + 1 := ⟨f - 1, by omega⟩
          rw [← hres, alM_stay hlt]
        have ho : (dat.data.toList.take c.tot, (0 : Int)) = (out.data.toList, e) := by
          have := HOUT.out
          rw [hR] at this
          unfold alOut at this
          rw [if_pos (by show least ≤ (c.tot : Int); omega)] at this
          exact this
        obtain ⟨ho1, ho2⟩ := Prod.mk.inj ho
        subst ho2
        have hcv := hrun.out out ho1
        clear hok htp hdd hl hrem hres hR ho ho1 hrun hlt hW
        go_wp2_with fail
        refine bodyPost_ret (v := .tuple #[.string out, .int .i64 0]) (by simp [results, Tryd.f23, go_sem]) rfl ?_
        exact ⟨rfl, HG.out.below (Nat.le_refl _) (fun _ _ => rfl)⟩
    · have hne0 : (e9 == 0) = false := by rcases he9 with h | h | h <;> (subst h; rfl)
      by_cases hlt : (c.tot : Int) < least
      · have k1 : decide ((c.tot : Int) < least) = true := by simpa using hlt
        have k2 : decide ((c.tot : Int) ≥ least) = false := by simp; omega
        have k2' : decide (least ≤ (c.tot : Int)) = false := by simp; omega
        have ho := HOUT.out
        rw [hres] at ho
        unfold alOut at ho
        rw [if_neg (by show ¬ least ≤ (c.tot : Int); omega)] at ho
        dsimp only at ho
        by_cases he1 : e9 = -1
        · subst he1
          rw [if_pos rfl] at ho
          by_cases ht0 : 0 < c.tot
          · rw [if_pos ht0] at ho
            obtain ⟨ho1, ho2⟩ := Prod.mk.inj ho
            subst ho2
            have hcv := hrun.out out ho1
            have k3 : decide ((c.tot : Int) > 0) = true := by simp; omega
            have k3' : decide (0 < c.tot) = true := by simpa using ht0
            clear ho ho1 hres hrun hlt he9 hne0 ht0
            go_wp2_with fail
            refine bodyPost_ret (v := .tuple #[.string out, .int .i64 364]) (by simp [results, Tryd.f23, go_sem]) rfl ?_
            exact ⟨rfl, HG.out.below (Nat.le_refl _) (fun _ _ => rfl)⟩
          · rw [if_neg ht0] at ho
            obtain ⟨ho1, ho2⟩ := Prod.mk.inj ho
            subst ho2
            have hout0 : out = ⟨#[]⟩ := by
              cases out with
              | mk d =>
                have : d.toList = [] := ho1.symm
                simp at this
                rw [this]
            subst hout0
            have k3 : decide ((c.tot : Int) > 0) = false := by simp; omega
            have k3' : decide (0 < c.tot) = false := by simpa using ht0
            clear ho ho1 hres hrun hlt he9 hne0 ht0
            go_wp2_with fail
            refine bodyPost_ret (v := .tuple #[.string ⟨#[]⟩, .int .i64 365]) (by simp [results, Tryd.f23, go_sem]) rfl ?_
            exact ⟨rfl, HG.out.below (Nat.le_refl _) (fun _ _ => rfl)⟩
        · rw [if_neg he1] at ho
          obtain ⟨ho1, ho2⟩ := Prod.mk.inj ho
          subst ho2
          have hcv := hrun.out out ho1
          have q1 : (e9 == -1) = false := by simpa using he1
          have q2 : (e9 != -1) = true := by simpa using he1
          clear ho ho1 hres hrun hlt he9 he1
          go_wp2_with fail
          refine bodyPost_ret (v := .tuple #[.string out, .int .i64 e9]) (by simp [results, Tryd.f23, go_sem]) rfl ?_
          exact ⟨rfl, HG.out.below (Nat.le_refl _) (fun _ _ => rfl)⟩
      · have k1 : decide ((c.tot : Int) < least) = false := by simpa using hlt
        have k2 : decide ((c.tot : Int) ≥ least) = true := by simp; omega
        have k2' : decide (least ≤ (c.tot : Int)) = true := by simp; omega
        have ho : (dat.data.toList.take c.tot, (0 : Int)) = (out.data.toList, e) := by
          have := HOUT.out
          rw [hres] at this
          unfold alOut at this
          rw [if_pos (by show least ≤ (c.tot : Int); omega)] at this
          exact this
        obtain ⟨ho1, ho2⟩ := Prod.mk.inj ho
        subst ho2
        have hcv := hrun.out out ho1
        clear hres ho ho1 hrun hlt he9 hne0
        go_wp2_with fail
        refine bodyPost_ret (v := .tuple #[.string out, .int .i64 0]) (by simp [results, Tryd.f23, go_sem]) rfl ?_
        exact ⟨rfl, HG.out.below (Nat.le_refl _) (fun _ _ => rfl)⟩

/-- too small a buffer -/
theorem smallN {size : Nat} {least : Int} {src : Array Value} {w : World} (hl : (size : Int) < least) : Calls Tryd.prog 22 #[.agg src, .int .i64 least, .int .i64 size] w (RV w (.tuple #[.string ⟨#[]⟩, .int .i64 366])) := by
  have k0 : decide ((size : Int) < least) = true := by simpa using hl
  clear hl
  go_enter Tryd.func22, Tryd.ntmps22
  go_wp2_with fail
  go_ret2
  exact ⟨rfl, (Below.refl _ _).alloc (Nat.le_refl _) _⟩
theorem smallR {size : Nat} {least : Int} {src : Array Value} {w : World} (hl : (size : Int) < least) : Calls Tryd.prog 23 #[.agg src, .int .i64 least, .int .i64 size] w (RV w (.tuple #[.string ⟨#[]⟩, .int .i64 366])) := by
  have k0 : decide ((size : Int) < least) = true := by simpa using hl
  clear hl
  go_enter Tryd.func23, Tryd.ntmps23
  go_wp2_with fail
  go_ret2
  exact ⟨rfl, (Below.refl _ _).alloc (Nat.le_refl _) _⟩
end Go.Proofs.YtigfgdefgnahpaaDoor

/-
  The walk of PipeReads. Not a statement of the seat.
-/
namespace Go.Proofs.YtigfgdefgnahpaaDoor
open Go.RowKit

set_option maxRecDepth 100000 in
set_option maxHeartbeats 8000000 in
theorem readsT {dat : ByteArray} {sa pa : Option Addr} {sn sc pn pc : Nat} {early broken wrt : Bool} {zs : List Int} {ps : List Pp} {eb : Nat} {least n : Int} {w : World} (hZ : RdK w free none 1 sa sn sc (I3 zs)) (hP : Pipes w free pa pn pc ps) (hL : Laid eb w) (hn : ∀ x ∈ ps, -9223372036854775808 ≤ x.n ∧ x.n ≤ 9223372036854775807) (hl : ∀ x ∈ ps, x.zs.length = x.sn) :
    Calls Tryd.prog 9 #[.agg #[.string dat, .slice sa sn sc, .bool early, .bool broken, .bool wrt, .slice pa pn pc], .int .i64 least, .int .i64 n] w (RV w (.bool true)) := by
  obtain ⟨wq, hwq⟩ : ∃ wq, w.alloc (.cells #[.string dat, .slice sa sn sc, .bool early, .bool broken, .bool wrt, .slice pa pn pc] 25) = wq := ⟨_, rfl⟩
  have hbw : Below w.heap.size w wq := by rw [← hwq]; exact (Below.refl _ w).alloc (Nat.le_refl _) _
  have hb1 : Blk wq w.heap.size [.string dat, .slice sa sn sc, .bool early, .bool broken, .bool wrt, .slice pa pn pc] := by rw [← hwq]; exact Blk.new w #[.string dat, .slice sa sn sc, .bool early, .bool broken, .bool wrt, .slice pa pn pc] 25
  have hst : ∀ wx : World, Below wq.heap.size wq wx → RdK wx free none 1 sa sn sc (I3 zs) ∧ Pipes wx free pa pn pc ps := fun wx hx => by
    have g : Step (fun _ => False) w free wx free := (Step.refl _ (fun _ _ => rfl)).calm (hbw.trans (hx.mono hbw.size))
    exact ⟨hZ.step g (fun _ h => by cases h), hP.step g⟩
  have hLq := hL.below hbw
  have hplen := hP.len
  obtain ⟨b1, hs⟩ : ∃ b1, srcFit dat.size zs ps = b1 := ⟨_, rfl⟩
  have h21 : ∀ wx : World, Below wq.heap.size wq wx → Calls Tryd.prog 21 #[.agg #[.string dat, .slice sa sn sc, .bool early, .bool broken, .bool wrt, .slice pa pn pc]] wx (RV wx (.bool b1)) := fun wx hx => srcR (fun _ _ => rfl) (hst wx hx).1 (hst wx hx).2 hs
  have h12 : ∀ wx : World, Below wq.heap.size wq wx → Calls Tryd.prog 12 #[] wx (RV wx (.bool true)) := fun wx hx => awakeT (hLq.below hx)
  have hkeep : ∀ wx : World, Below wq.heap.size wq wx → wx.cell? ⟨w.heap.size, 0, none⟩ = some (.string dat) ∧ wx.cell? ⟨w.heap.size, 1, none⟩ = some (.slice sa sn sc) ∧ wx.cell? ⟨w.heap.size, 2, none⟩ = some (.bool early) ∧ wx.cell? ⟨w.heap.size, 3, none⟩ = some (.bool broken) ∧ wx.cell? ⟨w.heap.size, 4, none⟩ = some (.bool wrt) ∧ wx.cell? ⟨w.heap.size, 5, none⟩ = some (.slice pa pn pc) := fun wx hx => by
    have h := hb1.below hx
    exact ⟨h.cell 0 rfl, h.cell 1 rfl, h.cell 2 rfl, h.cell 3 rfl, h.cell 4 rfl, h.cell 5 rfl⟩
  have hsz := sizeM_le n
  obtain ⟨m, hm⟩ : ∃ m, sizeM n = m := ⟨_, rfl⟩
  rw [hm] at hsz
  have hsT : ∀ wx : World, Calls Tryd.prog 15 #[.int .i64 n] wx (fun e w' => e = .returned (.int .i64 (m : Nat)) ∧ w' = wx) := fun wx => by rw [← hm]; exact sizeT n wx
  have HKEEP := Lib.hid hkeep
  have H21 := Lib.hid h21
  have H12 := Lib.hid h12
  have HBW := Lib.hid hbw
  have HWQ := Lib.hid hwq
  have HST := Lib.hid hsT
  cases b1
  · clear hkeep h21 h12 hbw hwq hsT hs hst hLq hm hsz hZ hP hL hn hl hb1 hplen
    obtain ⟨c0, c1, c2, c3, c4, c5⟩ := HKEEP.out wq (Below.refl _ _)
    go_enter Tryd.func9, Tryd.ntmps9
    go_wp2_with fail
    rw [HWQ.out]
    refine (H21.out _ (Below.refl _ _)).mono ?_
    rintro e w1 ⟨rfl, hb⟩
    have HB := Lib.hid hb
    clear hb
    go_wp2_with fail
    refine (H12.out _ HB.out).mono ?_
    rintro e w2 ⟨rfl, hb⟩
    have HB2 := Lib.hid (HB.out.trans (hb.mono HB.out.size))
    clear hb
    go_wp2
    go_ret
    exact ⟨rfl, HBW.out.trans (HB2.out.mono HBW.out.size)⟩
  · have hd : dat.data.toList.length = dat.size := Array.length_toList
    have hfa : FitA dat.data.toList.length zs ps := ⟨by rw [hd]; exact hs, hn, hl⟩
    obtain ⟨p, a1, a2, a3, a4, a5, a6⟩ := fit_src early broken hfa
    rw [hplen] at a4
    have hok : CpOk p ⟨upto ps pn, srcOf dat.data.toList zs early broken, [], freshT [] 0 false, 0⟩ :=
      ⟨a1, a2, a4, (show (freshT [] 0 false).ok from ⟨(fun z hz => by cases hz), by decide, by decide, by decide, fun _ => by decide⟩), Nat.zero_le _, Nat.zero_le _, Nat.zero_le _, (fun x hx => by cases hx), by show 0 + (srcOf dat.data.toList zs early broken).rem p ≤ 5000000; omega⟩
    have hF : (srcOf dat.data.toList zs early broken).rem p < 4400001 := by omega
    have hpn : pn ≤ 10 := by omega
    obtain ⟨O1, hO1⟩ : ∃ O : Bytes × Int, (if (m : Int) < least then ([], 366) else alOut least dat.data.toList (alM least m 4400001 ⟨upto ps pn, srcOf dat.data.toList zs early broken, [], freshT [] 0 false, 0⟩)) = O := ⟨_, rfl⟩
    obtain ⟨O2, hO2⟩ : ∃ O : Bytes × Int, allOut dat.data.toList (runM (aRound m) 4400001 ⟨upto ps pn, srcOf dat.data.toList zs early broken, [], freshT [] 0 false, 0⟩) = O := ⟨_, rfl⟩
    obtain ⟨l1, e1⟩ := O1
    obtain ⟨l2, e2⟩ := O2
    obtain ⟨o1, ho1⟩ : ∃ o : ByteArray, o = ⟨l1.toArray⟩ := ⟨_, rfl⟩
    obtain ⟨o2, ho2⟩ : ∃ o : ByteArray, o = ⟨l2.toArray⟩ := ⟨_, rfl⟩
    have hl1 : l1 = o1.data.toList := by rw [ho1]
    have hl2 : l2 = o2.data.toList := by rw [ho2]
    have h22 : ∀ wx : World, Below wq.heap.size wq wx → Calls Tryd.prog 22 #[.agg #[.string dat, .slice sa sn sc, .bool early, .bool broken, .bool wrt, .slice pa pn pc], .int .i64 least, .int .i64 m] wx (RV wx (.tuple #[.string o1, .int .i64 e1])) := fun wx hx => by
      by_cases hlt : (m : Int) < least
      · rw [if_pos hlt] at hO1
        obtain ⟨h1, h2⟩ := Prod.mk.inj hO1
        subst h1 h2 ho1
        exact smallN hlt
      · rw [if_neg hlt] at hO1
        exact atLeastN (hst wx hx).1 (hst wx hx).2 a5 hpn hok hsz.1 (by omega) (by omega) (hLq.below hx).eof (hLq.below hx).et hF rfl (by rw [hO1, hl1])
    have h23 : ∀ wx : World, Below wq.heap.size wq wx → Calls Tryd.prog 23 #[.agg #[.string dat, .slice sa sn sc, .bool early, .bool broken, .bool wrt, .slice pa pn pc], .int .i64 least, .int .i64 m] wx (RV wx (.tuple #[.string o1, .int .i64 e1])) := fun wx hx => by
      by_cases hlt : (m : Int) < least
      · rw [if_pos hlt] at hO1
        obtain ⟨h1, h2⟩ := Prod.mk.inj hO1
        subst h1 h2 ho1
        exact smallR hlt
      · rw [if_neg hlt] at hO1
        exact atLeastR (hst wx hx).1 (hst wx hx).2 hpn hok hsz.1 (by omega) (by omega) hF rfl (by rw [hO1, hl1])
    have h24 : ∀ wx : World, Below wq.heap.size wq wx → Calls Tryd.prog 24 #[.agg #[.string dat, .slice sa sn sc, .bool early, .bool broken, .bool wrt, .slice pa pn pc], .int .i64 m] wx (RV wx (.tuple #[.string o2, .int .i64 e2])) := fun wx hx =>
      allN (hst wx hx).1 (hst wx hx).2 a5 hpn hok hsz.1 (by omega) (hLq.below hx).eof (hLq.below hx).et hF rfl (by rw [hO2, hl2])
    have h25 : ∀ wx : World, Below wq.heap.size wq wx → Calls Tryd.prog 25 #[.agg #[.string dat, .slice sa sn sc, .bool early, .bool broken, .bool wrt, .slice pa pn pc], .int .i64 m] wx (RV wx (.tuple #[.string o2, .int .i64 e2])) := fun wx hx =>
      allR (hst wx hx).1 (hst wx hx).2 hpn hok hsz.1 (by omega) hF rfl (by rw [hO2, hl2])
    have H22 := Lib.hid h22
    have H23 := Lib.hid h23
    have H24 := Lib.hid h24
    have H25 := Lib.hid h25
    have hs1 : (o1.toList == o1.toList) = true := by simp
    have hs2 : (o2.toList == o2.toList) = true := by simp
    clear hkeep h21 h12 hbw hwq hsT hs hst hLq hm hsz hZ hP hL hn hl hb1 hplen h22 h23 h24 h25 ho1 ho2 hl1 hl2 hO1 hO2 hok hF hpn a1 a2 a3 a4 a5 a6 hfa hd
    obtain ⟨c0, c1, c2, c3, c4, c5⟩ := HKEEP.out wq (Below.refl _ _)
    go_enter Tryd.func9, Tryd.ntmps9
    go_wp2_with fail
    rw [HWQ.out]
    refine (H21.out _ (Below.refl _ _)).mono ?_
    rintro e w1 ⟨rfl, hb⟩
    have HW1 := Lib.hid hb
    clear hb c0 c1 c2 c3 c4 c5
    obtain ⟨c0, c1, c2, c3, c4, c5⟩ := HKEEP.out w1 HW1.out
    go_wp2_with fail
    have r0 := Grew.cell c0
    have r1 := Grew.cell c1
    have r2 := Grew.cell c2
    have r3 := Grew.cell c3
    have r4 := Grew.cell c4
    have r5 := Grew.cell c5
    clear c0 c1 c2 c3 c4 c5
    refine wp_region_grew (by kernel_rfl) (by kernel_rfl) ?_
    repeat (go_big_quiet_step (first
      | (go_at_call 15; exact grew_same (HST.out _))
      | (go_at_call 22; exact grew_call (H22.out _ (HW1.out.trans ((Grew.below _).mono HW1.out.size))))))
    refine wpQuiet_nil ?_
    intro _ hw'
    obtain ⟨x5, hw''⟩ := hw'
    subst hw''
    clear r0 r1 r2 r3 r4 r5
    have HW2 := Lib.hid (HW1.out.trans (x5.below.mono HW1.out.size))
    generalize x5.val = w2 at HW2 ⊢
    clear x5
    obtain ⟨c0, c1, c2, c3, c4, c5⟩ := HKEEP.out w2 HW2.out
    go_wp2_with fail
    have r0 := Grew.cell c0
    have r1 := Grew.cell c1
    have r2 := Grew.cell c2
    have r3 := Grew.cell c3
    have r4 := Grew.cell c4
    have r5 := Grew.cell c5
    clear c0 c1 c2 c3 c4 c5
    refine wp_region_grew (by kernel_rfl) (by kernel_rfl) ?_
    repeat (go_big_quiet_step (first
      | (go_at_call 15; exact grew_same (HST.out _))
      | (go_at_call 23; exact grew_call (H23.out _ (HW2.out.trans ((Grew.below _).mono HW2.out.size))))))
    refine wpQuiet_nil ?_
    intro _ hw'
    obtain ⟨x5, hw''⟩ := hw'
    subst hw''
    clear r0 r1 r2 r3 r4 r5
    have HW3 := Lib.hid (HW2.out.trans (x5.below.mono HW2.out.size))
    generalize x5.val = w3 at HW3 ⊢
    clear x5
    obtain ⟨c0, c1, c2, c3, c4, c5⟩ := HKEEP.out w3 HW3.out
    go_wp2_with fail
    have r0 := Grew.cell c0
    have r1 := Grew.cell c1
    have r2 := Grew.cell c2
    have r3 := Grew.cell c3
    have r4 := Grew.cell c4
    have r5 := Grew.cell c5
    clear c0 c1 c2 c3 c4 c5
    refine wp_region_grew (by kernel_rfl) (by kernel_rfl) ?_
    repeat (go_big_quiet_step (first
      | (go_at_call 15; exact grew_same (HST.out _))
      | (go_at_call 24; exact grew_call (H24.out _ (HW3.out.trans ((Grew.below _).mono HW3.out.size))))))
    refine wpQuiet_nil ?_
    intro _ hw'
    obtain ⟨x5, hw''⟩ := hw'
    subst hw''
    clear r0 r1 r2 r3 r4 r5
    have HW4 := Lib.hid (HW3.out.trans (x5.below.mono HW3.out.size))
    generalize x5.val = w4 at HW4 ⊢
    clear x5
    obtain ⟨c0, c1, c2, c3, c4, c5⟩ := HKEEP.out w4 HW4.out
    go_wp2_with fail
    have r0 := Grew.cell c0
    have r1 := Grew.cell c1
    have r2 := Grew.cell c2
    have r3 := Grew.cell c3
    have r4 := Grew.cell c4
    have r5 := Grew.cell c5
    clear c0 c1 c2 c3 c4 c5
    refine wp_region_grew (by kernel_rfl) (by kernel_rfl) ?_
    repeat (go_big_quiet_step (first
      | (go_at_call 15; exact grew_same (HST.out _))
      | (go_at_call 25; exact grew_call (H25.out _ (HW4.out.trans ((Grew.below _).mono HW4.out.size))))))
    refine wpQuiet_nil ?_
    intro _ hw'
    obtain ⟨x5, hw''⟩ := hw'
    subst hw''
    clear r0 r1 r2 r3 r4 r5
    have HW5 := Lib.hid (HW4.out.trans (x5.below.mono HW4.out.size))
    generalize x5.val = w5 at HW5 ⊢
    clear x5
    obtain ⟨c0, c1, c2, c3, c4, c5⟩ := HKEEP.out w5 HW5.out
    go_wp2_with fail
    refine (H12.out _ HW5.out).mono ?_
    rintro e w6 ⟨rfl, hb⟩
    have HB6 := Lib.hid (HW5.out.trans (hb.mono HW5.out.size))
    clear hb c0 c1 c2 c3 c4 c5
    go_wp2
    go_ret
    exact ⟨rfl, HBW.out.trans (HB6.out.mono HBW.out.size)⟩
end Go.Proofs.YtigfgdefgnahpaaDoor
