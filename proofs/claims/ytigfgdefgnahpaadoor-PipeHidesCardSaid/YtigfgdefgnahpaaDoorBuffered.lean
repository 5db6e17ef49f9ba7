/-
  The walk of buffered (the code's). Not a statement of the seat.
-/
import Derived.Test.YtigfgdefgnahpaaDoorCopying
import Derived.Test.YtigfgdefgnahpaaDoorChainRd
import Derived.Deep.OwnRows
import Derived.LaidEql
namespace Go.Proofs.YtigfgdefgnahpaaDoor
open Go.RowKit

/-- the least number of which R holds -/
theorem exists_least {R : Nat → Prop} (h : ∃ n, R n) : ∃ n, R n ∧ ∀ m, R m → n ≤ m := by
  obtain ⟨n, hn⟩ := h
  induction n using Nat.strongRecOn with
  | _ n ih =>
    by_cases hm : ∃ m, m < n ∧ R m
    · obtain ⟨m, h1, h2⟩ := hm
      exact ih m h1 h2
    · exact ⟨n, hn, fun m h => by
        by_cases hl : m < n
        · exact absurd ⟨m, hl, h⟩ hm
        · omega⟩
open Classical in
noncomputable def least (R : Nat → Prop) : Nat := if h : ∃ n, R n then Classical.choose (exists_least h) else 0
theorem least_spec {R : Nat → Prop} (h : ∃ n, R n) : R (least R) := by
  unfold least
  rw [dif_pos h]
  exact (Classical.choose_spec (exists_least h)).1
theorem least_le {R : Nat → Prop} {n : Nat} (h : R n) : least R ≤ n := by
  unfold least
  rw [dif_pos ⟨n, h⟩]
  exact (Classical.choose_spec (exists_least ⟨n, h⟩)).2 n h

/-- the errors' comparisons -/
theorem eqE (eb : Nat) {e : Int} (h : e = 0 ∨ e = -1 ∨ e = 362 ∨ e = 363) (w : World) : (binOp .eql 68 (errV eb e) (EOFv eb)).run Tryd.prog w = .ok (.bool (e == -1)) w := by
  rcases h with rfl | rfl | rfl | rfl
  · kernel_rfl
  · show (binOp .eql 68 (EOFv eb) (EOFv eb)).run Tryd.prog w = .ok (.bool true) w
    unfold EOFv
    obtain ⟨i, hi, hc⟩ : ∃ i, Tryd.prog.info? 170 = some i ∧ i.comparable = true := by
      have h : (Tryd.prog.info? 170).map (·.comparable) = some true := by kernel_rfl
      cases hi : Tryd.prog.info? 170 with
      | none => rw [hi] at h; cases h
      | some i => rw [hi] at h; exact ⟨i, rfl, by simpa using h⟩
    obtain ⟨j, hj⟩ : ∃ j, Tryd.prog.info? 193 = some j := by
      have h : (Tryd.prog.info? 193).isSome = true := by kernel_rfl
      exact Option.isSome_iff_exists.1 h
    exact run_eql_iface_ptr_same w _ Tryd.underlying68 Tryd.underlying170 hi hc hj
  · kernel_rfl
  · kernel_rfl
theorem neN (eb : Nat) {e : Int} (h : e = 0 ∨ e = -1 ∨ e = 362 ∨ e = 363) (w : World) : (binOp .neq 68 (errV eb e) .nilIface).run Tryd.prog w = .ok (.bool (!(e == 0))) w := by
  rcases h with rfl | rfl | rfl | rfl <;> kernel_rfl
theorem gdE (eb : Nat) {e : Int} (h : e = 0 ∨ e = -1 ∨ e = 362 ∨ e = 363) (a b : Operand) (w : World) : (eqGuard .eql 68 a b (errV eb e) (EOFv eb)).run Tryd.prog w = .ok () w := by
  rcases h with rfl | rfl | rfl | rfl <;> rfl
theorem gdN (eb : Nat) {e : Int} (h : e = 0 ∨ e = -1 ∨ e = 362 ∨ e = 363) (a : Operand) (w : World) : (eqGuard .neq 68 a (.const .nilIface) (errV eb e) .nilIface).run Tryd.prog w = .ok () w := by
  rcases h with rfl | rfl | rfl | rfl <;> cases a <;> rfl

theorem nWr55 (a : Addr) (w : World) : (nilAhead 305 55 (.pointer (some a)) "conduit/pipe.write").run Tryd.prog w = .ok (some false) w := by kernel_rfl
theorem nWr108 (a : Addr) (w : World) : (nilAhead 305 108 (.agg #[.pointer (some a)]) "conduit/pipe.write").run Tryd.prog w = .ok (some false) w := by kernel_rfl
theorem nWr114 (b c : Value) (w : World) : (nilAhead 305 114 (.agg #[b, c]) "conduit/pipe.write").run Tryd.prog w = .ok (some false) w := by kernel_rfl
theorem nWr119 (b c f : Value) (w : World) : (nilAhead 305 119 (.agg #[b, c, f]) "conduit/pipe.write").run Tryd.prog w = .ok (some false) w := by kernel_rfl
theorem nWr110 (b : Value) (w : World) : (nilAhead 305 110 (.agg #[b]) "conduit/pipe.write").run Tryd.prog w = .ok (some false) w := by kernel_rfl
/-- the value is there to be called -/
def Alive (name : String) (v : Value) : Prop := ∀ T x, v = .iface T x → ∀ w, (nilAhead 305 T x name).run Tryd.prog w = .ok (some false) w
theorem sinkAlive {w : World} {r : Own} {rd : Sk} {bk : Int} : ∀ {l : List KW} {v : Value} {t : Tank}, SinkAt w r rd bk v l t → Alive "conduit/pipe.write" v
  | [], v, t, h => by
    obtain ⟨fs, rfl, h2⟩ := h
    intro T x e
    cases hrd : rd.rd
    · rw [hrd, if_neg (by simp)] at e; cases e; exact fun w => nWr55 _ w
    · rw [hrd, if_pos rfl] at e; cases e; exact fun w => nWr108 _ w
  | x :: l, v, t, h => by
    obtain ⟨below, h1, h2⟩ := h
    intro T y e
    unfold SinkWrap at h2
    split at h2
    · obtain ⟨cb, rfl, _⟩ := h2
      split at e
      · cases e; exact fun w => nWr119 _ _ _ w
      · cases e; exact fun w => nWr114 _ _ w
    · subst h2
      cases e
      exact fun w => nWr110 _ w

/-- what a copying may turn -/
def KC (k : Nat) : Prop := k < 30 ∨ k = 31 ∨ 40 ≤ k
def BufRel (round : Cp → Cp × Option Int) (Res : Cp × Int) (p m LL : Nat) (rv wv : Value) (wr : Sh) (rd : Sk) (bk : Int) (ba : Option Addr) (bc : Nat) (w0 : World) (r0 : Own) (f : Nat) (t : Value) (wx : World) : Prop :=
  ∃ c rx xs, t = .int .i64 (c.tot : Int) ∧ Step KC w0 r0 wx rx ∧ Chain wx rx wr rv c.l c.s ∧ SinkAt wx rx rd bk wv c.k c.t ∧ RowK wx rx 31 1 ba m bc xs ∧ CpOk p c ∧ c.l.length = LL ∧ c.s.rem p < f ∧ runM round f c = Res
def RunW (Res : Cp × Int) (rv wv : Value) (wr : Sh) (rd : Sk) (bk : Int) (w0 : World) (r0 : Own) (w' : World) : Prop :=
  ∃ r', Step KC w0 r0 w' r' ∧ Chain w' r' wr rv Res.1.l Res.1.s ∧ SinkAt w' r' rd bk wv Res.1.k Res.1.t

section
variable {m : Nat} {c : Cp}
theorem buf0 (h : (readM c.l c.s m).n = 0) : bufRound m c = (c.read m, tailE (readM c.l c.s m).e) := by unfold bufRound; dsimp only; rw [if_pos h]
theorem buf1 (h : (readM c.l c.s m).n ≠ 0) (h1 : (readM c.l c.s m).n < c.t.said (readM c.l c.s m).n) : bufRound m c = ((c.read m).put (c.got m), some 361) := by unfold bufRound; dsimp only; rw [if_neg h, if_pos h1]
theorem buf2 (h : (readM c.l c.s m).n ≠ 0) (h1 : ¬ (readM c.l c.s m).n < c.t.said (readM c.l c.s m).n) (h2 : c.t.full (readM c.l c.s m).n = true) : bufRound m c = (((c.read m).put (c.got m)).plus (c.t.said (readM c.l c.s m).n), some 362) := by
  unfold bufRound; dsimp only; rw [if_neg h, if_neg h1, if_pos h2]
theorem buf3 (h : (readM c.l c.s m).n ≠ 0) (h1 : ¬ (readM c.l c.s m).n < c.t.said (readM c.l c.s m).n) (h2 : ¬ c.t.full (readM c.l c.s m).n = true) (h3 : c.t.said (readM c.l c.s m).n < (readM c.l c.s m).n) : bufRound m c = (((c.read m).put (c.got m)).plus (c.t.said (readM c.l c.s m).n), some 360) := by
  unfold bufRound; dsimp only; rw [if_neg h, if_neg h1, if_neg h2, if_pos h3]
theorem buf4 (h : (readM c.l c.s m).n ≠ 0) (h1 : ¬ (readM c.l c.s m).n < c.t.said (readM c.l c.s m).n) (h2 : ¬ c.t.full (readM c.l c.s m).n = true) (h3 : ¬ c.t.said (readM c.l c.s m).n < (readM c.l c.s m).n) : bufRound m c = (((c.read m).put (c.got m)).plus (c.t.said (readM c.l c.s m).n), tailE (readM c.l c.s m).e) := by
  unfold bufRound; dsimp only; rw [if_neg h, if_neg h1, if_neg h2, if_neg h3]
end

set_option maxRecDepth 100000 in
set_option maxHeartbeats 4000000 in
theorem bufferedN {eb : Nat} {wb : Sh} {rd : Sk} {bk : Int} {rv wv : Value} {c0 : Cp} {p m : Nat} {w : World} {r : Own} {F : Nat} {Res : Cp × Int} {tot : Nat} {ev : Value}
    (hC0 : Chain w r wb rv c0.l c0.s) (hS0 : SinkAt w r rd bk wv c0.k c0.t) (hok0 : CpOk p c0) (hl0 : c0.l.length < 20) (hm1 : 1 ≤ m) (hm2 : m ≤ 1000000) (hE0 : EOFat w r eb) (hbnd0 : Bnd w r) (ht0 : c0.tot = 0) (hF : c0.s.rem p < F)
    (hres0 : runM (bufRound m) F c0 = Res) (htot : Res.1.tot = tot) (hev : errV eb Res.2 = ev) :
    Calls Tryd.prog 49 #[rv, wv, .int .i64 m] w (PostV (.tuple #[.int .i64 tot, ev]) (RunW Res rv wv wb rd bk w r)) := by
  obtain ⟨K0, rv0, hM⟩ := chainMeth hC0
  obtain ⟨K1, wv0, hN⟩ := sinkMeth hS0
  have hal := sinkAlive hS0
  obtain ⟨T, x, hrvE, hm, hcf⟩ := id hM
  obtain ⟨T1, x1, hwvE, hn1, hcf1⟩ := id hN
  have hna := hal T1 x1 hwvE
  subst hrvE
  subst hwvE
  obtain ⟨eo, heo⟩ : ∃ eo, EOFv eb = eo := ⟨_, rfl⟩
  have hmk := run_make_row' (P := Tryd.prog) 78 5 (.int .u8 0) 1 under78 (by kernel_rfl) rfl .i64 .i64 m (by omega) (by omega)
  -- the start
  have hgo := Step.refl KC hbnd0
  have hg1 : Step KC w r (w.alloc (.cells (madeCells #[.int .u8 0] m) 5)) (r.give w.heap.size 31) := (hgo.alloc _).give (Nat.le_refl _) (by simp) (.inr (.inl rfl))
  have hg2 : Step (fun k => k = 31) w r (w.alloc (.cells (madeCells #[.int .u8 0] m) 5)) (r.give w.heap.size 31) := ((Step.refl _ hbnd0).alloc _).give (Nat.le_refl _) (by simp) rfl
  have hrow : RowK (w.alloc (.cells (madeCells #[.int .u8 0] m) 5)) (r.give w.heap.size 31) 31 1 (some ⟨w.heap.size, 0, none⟩) m m (madeCells #[.int .u8 0] m).toList := by
    refine ⟨⟨by simp [size_madeCells], Nat.le_refl _, by unfold maxLen; omega, .inr ⟨_, _, rfl, Nat.zero_le _, by simp, fun j hj => ?_, fun j hj => ⟨?_, ?_⟩⟩⟩, fun b hb => ?_⟩
    · simp
    · rw [Nat.mul_one] at hj
      have : j < (madeCells #[Value.int .u8 0] m).size := by rw [size_madeCells]; exact hj
      simp [this]
    · exact World.frozen?_new _ _ _ _
    · cases hb; exact Own.give_same _ _ _
  have hrel0 : BufRel (bufRound m) Res p m c0.l.length (.iface T x) (.iface T1 x1) wb rd bk (some ⟨w.heap.size, 0, none⟩) m w r F (.int .i64 0) (w.alloc (.cells (madeCells #[.int .u8 0] m) 5)) :=
    ⟨c0, _, _, by rw [ht0]; rfl, hg1, hC0.step hg2 (fun k hk e => by omega) (by omega), hS0.step hg2 (fun k _ _ e => by omega), hrow, hok0, rfl, hF, hres0⟩
  have HREL0 := Lib.hid hrel0
  have HM := Lib.hid hM
  have HN := Lib.hid hN
  have HE0 := Lib.hid hE0
  have HEO := Lib.hid heo
  have HTOT := Lib.hid htot
  have HEV := Lib.hid hev
  clear hrel0 hrow hg1 hg2 hgo hM hN hE0 hC0 hS0 hok0 hF hres0 ht0 hal heo htot hev
  generalize c0.l.length = LL at hl0 HREL0
  clear c0
  go_enter Tryd.func49, Tryd.ntmps49
  go_wp2_with fail
  generalize (w.alloc (.cells (madeCells #[.int .u8 0] m) 5)) = wa at HREL0 ⊢
  generalize hba : (some ⟨w.heap.size, 0, none⟩ : Option Addr) = ba at HREL0 ⊢
  clear hba
  go_loopw [9] (fun t wb' => ∃ f, BufRel (bufRound m) Res p m LL (.iface T x) (.iface T1 x1) wb rd bk ba m w r f t wb') (fun t wb' => least (fun f => BufRel (bufRound m) Res p m LL (.iface T x) (.iface T1 x1) wb rd bk ba m w r f t wb'))
  case atStart => exact ⟨F, HREL0.out⟩
  case round =>
    obtain ⟨f, hf, hle⟩ : ∃ f, BufRel (bufRound m) Res p m LL (.iface T x) (.iface T1 x1) wb rd bk ba m w r f u9 wr ∧ f ≤ least (fun f => BufRel (bufRound m) Res p m LL (.iface T x) (.iface T1 x1) wb rd bk ba m w r f u9 wr) := ⟨_, least_spec hrel, Nat.le_refl _⟩
    have HLE := Lib.hid hle
    clear hle hrel HREL0
    obtain ⟨c, rx, xs, rfl, g, hC, hS, hB, hok, hl, hrem, hres⟩ := hf
    obtain ⟨f, rfl⟩ : ∃ f', f = f' + 1 := ⟨f - 1, by omega⟩
    have hgood := readM_good c.l c.s m hok.s hok.l
    have hkk := hok.kk
    have htb := hok.tot
    have hgl := got_length hok m
    have hp1 := hok.s.2.2.1
    have hp2 := hok.s.2.2.2
    have hp3 := hgood.ok.2.2.1
    rw [hgood.data] at hp3
    have hp4 := hgood.bytes
    have hnm := hgood.le
    have hmb := hB.1.rd.le
    have hbm := hB.1.rd.max
    unfold maxLen at hbm
    have herr := hgood.err
    have hprog := bufRound_ok hok hm1
    have hthas := hok.has
    have htk := hok.tk
    have hkx := hok.k
    have htok := hok.t
    have hrd := chainRead (eb := eb) c.l hC hok.s hok.l (by omega) hm2 hB (by omega) (by omega) (by omega) (HE0.out.step g) g.bound HM.out
    have hn2 := readM_good c.l c.s m hok.s hok.l
    obtain ⟨n, hn⟩ : ∃ n, (readM c.l c.s m).n = n := ⟨_, rfl⟩
    obtain ⟨e, he⟩ : ∃ e, (readM c.l c.s m).e = e := ⟨_, rfl⟩
    rw [hn] at hgl hp4 hnm
    rw [he] at herr
    rw [hn, he] at hrd
    obtain ⟨ev1, hev1⟩ : ∃ v, errV eb e = v := ⟨_, rfl⟩
    rw [hev1] at hrd
    have q1 : ∀ w, (binOp .eql 68 ev1 eo).run Tryd.prog w = .ok (.bool (e == -1)) w := fun w => by rw [← hev1, ← HEO.out]; exact eqE eb herr w
    have q2 : ∀ w, (binOp .neq 68 ev1 .nilIface).run Tryd.prog w = .ok (.bool (!(e == 0))) w := fun w => by rw [← hev1]; exact neN eb herr w
    have gq1 : ∀ a b w, (eqGuard .eql 68 a b ev1 eo).run Tryd.prog w = .ok () w := fun a b w => by rw [← hev1, ← HEO.out]; exact gdE eb herr a b w
    have gq2 : ∀ a w, (eqGuard .neq 68 a (.const .nilIface) ev1 .nilIface).run Tryd.prog w = .ok () w := fun a w => by rw [← hev1]; exact gdN eb herr a w
    have Q1 := Lib.hid q1
    have Q2 := Lib.hid q2
    have HRD := Lib.hid hrd
    have HN1 := Lib.hid hn
    have HE1 := Lib.hid he
    have HV1 := Lib.hid hev1
    have HG := Lib.hid g
    have HS := Lib.hid hS
    have HRES := Lib.hid hres
    have HOK := Lib.hid hok
    have HPR := Lib.hid hprog
    have HGL := Lib.hid hgl
    have HGD := Lib.hid hn2
    have HKX := Lib.hid hkx
    have HTOK := Lib.hid htok
    have HERR := Lib.hid herr
    have HREM := Lib.hid hrem
    have HL := Lib.hid hl
    have htb2 : c.tot ≤ 65535 := by omega
    have hn65 : n ≤ 65535 := by omega
    have hth2 : c.t.has.length ≤ 65535 := by omega
    have htk2 : c.t.k ≤ 5000000 := by omega
    have hthn : c.t.has.length + n ≤ 1000000 := by omega
    have HTHN := Lib.hid hthn
    have HTK2 := Lib.hid htk2
    have hsp : (c.s.pos : Int) ≤ 65535 := by omega
    have HSP := Lib.hid hsp
    clear q1 q2 hrd hn he hev1 g hS hres hok hprog hgl hgood hn2 hkx htok herr hrem hl hp1 hp2 hp3 hp4 hkk htb hthas htk hth2 hthn htk2 hsp hC
    go_wp2_with fail
    refine HRD.out.mono ?_
    rintro e' w2 ⟨rfl, hG⟩
    obtain ⟨r2, g2, hC2, ⟨ys, hB2, hys⟩, _⟩ := hG
    have g3 : Step KC w r w2 r2 := HG.out.trans (g2.mono (fun k hk => by have := HL.out; unfold KC; omega))
    have cE := (HE0.out.step g3).2.2
    rw [HEO.out] at cE
    have hS2 := HS.out.step g2 (fun k h1 h2 h3 => by have := HL.out; omega)
    have G3 := Lib.hid g3
    have HC2 := Lib.hid hC2
    have HB2 := Lib.hid hB2
    have HYS := Lib.hid hys
    have HS2 := Lib.hid hS2
    clear HRD HG HS g2 g3 hC2 hB2 hys hS2 hB
    by_cases hn0 : n = 0
    · subst hn0

      by_cases he1 : e = -1
      · have q1' : ∀ w, (binOp .eql 68 ev1 eo).run Tryd.prog w = .ok (.bool true) w := fun w => by rw [Q1.out, he1]; rfl
        have HTL : RowKit.Hid (tailE (readM c.l c.s m).e = some 0) := by rw [HE1.out, he1]; exact rfl
        clear he1
        have hR : Res = (c.read m, 0) := by rw [← HRES.out, runM_stop (e := 0) (by rw [buf0 HN1.out]; exact HTL.out), buf0 HN1.out]
        have ht : tot = c.tot := by rw [← HTOT.out, hR]; rfl
        have hv : ev = .nilIface := by rw [← HEV.out, hR]; rfl
        have HR := Lib.hid hR
        subst ht
        subst hv
        clear hR
        go_wp2
        refine bodyPost_ret (v := .tuple #[.int .i64 (c.tot : Int), .nilIface]) (by simp [results, Tryd.f49, go_sem]) rfl ?_
        exact ⟨rfl, r2, G3.out, by rw [HR.out]; exact HC2.out, by rw [HR.out]; exact HS2.out⟩

      · have q1' : ∀ w, (binOp .eql 68 ev1 eo).run Tryd.prog w = .ok (.bool false) w := fun w => by rw [Q1.out]; simp [he1]
        by_cases he0 : e = 0
        · have q2' : ∀ w, (binOp .neq 68 ev1 .nilIface).run Tryd.prog w = .ok (.bool false) w := fun w => by rw [Q2.out, he0]; rfl
          have hnone : (bufRound m c).2 = none := by rw [buf0 HN1.out]; show tailE (readM c.l c.s m).e = none; rw [HE1.out, he0]; rfl
          obtain ⟨k1, k2⟩ := HPR.out hnone
          have hrr : runM (bufRound m) f (bufRound m c).1 = Res := by rw [← HRES.out, runM_more hnone]
          rw [buf0 HN1.out] at k1 k2 hrr
          have hfin : BufRel (bufRound m) Res p m LL (.iface T x) (.iface T1 x1) wb rd bk ba m w r f (.int .i64 (c.tot : Int)) w2 :=
            ⟨c.read m, r2, _, by first | rfl | exact congrArg (Value.int IntKind.i64) (Int.natCast_add _ _).symm, G3.out, HC2.out, HS2.out, HB2.out, k1, HGD.out.len.trans HL.out, by have := HREM.out; dsimp only at k2; omega, hrr⟩
          have HFIN := Lib.hid hfin
          clear hnone k1 k2 hrr hfin he0 he1
          go_wp2
          go_roundw
          case rel => exact ⟨f, HFIN.out⟩
          case measure => exact Nat.lt_of_le_of_lt (least_le HFIN.out) (by have := HLE.out; omega)
        · have q2' : ∀ w, (binOp .neq 68 ev1 .nilIface).run Tryd.prog w = .ok (.bool true) w := fun w => by rw [Q2.out]; simp [he0]
          have HTL : RowKit.Hid (tailE (readM c.l c.s m).e = some e) := by rw [HE1.out]; show tailE e = some e; unfold tailE; rw [if_neg he1, if_neg he0]
          clear he0 he1
          have hR : Res = (c.read m, e) := by rw [← HRES.out, runM_stop (e := e) (by rw [buf0 HN1.out]; exact HTL.out), buf0 HN1.out]
          have ht : tot = c.tot := by rw [← HTOT.out, hR]; rfl
          have hv : ev = ev1 := by rw [← HEV.out, hR]; exact HV1.out
          have HR := Lib.hid hR
          subst ht
          subst hv
          clear hR
          go_wp2
          refine bodyPost_ret (v := .tuple #[.int .i64 (c.tot : Int), ev]) (by simp [results, Tryd.f49, go_sem]) rfl ?_
          exact ⟨rfl, r2, G3.out, by rw [HR.out]; exact HC2.out, by rw [HR.out]; exact HS2.out⟩

    · have hn0' : decide ((0 : Int) < (n : Int)) = true := by simp; omega
      have hnb : n ≤ m := by omega
      have hnb' : (n : Int) ≤ m := by omega
      have d0 : Step (fun _ => False) w2 r2 w2.drew r2 := (Step.refl _ G3.out.bound).drew
      have hR : RdK w2.drew r2 (some 31) 1 ba n m (B8 (c.got m)) := by
        have hr := HB2.out.step d0 id
        refine ⟨?_, .inr hr.2⟩
        have e1 : B8 (c.got m) = ys.take n := by unfold Cp.got; rw [← HYS.out, HN1.out]
        rw [e1]
        simpa using hr.1.rd.take (k := n) hnm hnb (Nat.le_refl _)
      have hwr := sinkWrite (eb := eb) (o := some 31) HTOK.out (fun k hk => by cases hk; omega) (by rw [HGL.out]; exact HTHN.out) (by have := HTK2.out; omega) c.k (HS2.out.step d0 (fun _ _ _ h => h)) hR (fun x hx => ⟨(HKX.out x hx).1, by have := (HKX.out x hx).2; have := HSP.out; omega⟩) d0.bound HN.out
      rw [HGL.out] at hwr
      have hsdle : c.t.said n ≤ n + 1 := by
        have := took_le c.t n
        unfold Tank.said
        split
        · omega
        · split <;> omega
      have HSDEF := Lib.hid (rfl : c.t.said n = c.t.said n)
      obtain ⟨sd, hsd⟩ : ∃ sd, c.t.said n = sd := ⟨_, rfl⟩
      obtain ⟨fv, hfv⟩ : ∃ v, errV eb (if c.t.full n then 362 else 0) = v := ⟨_, rfl⟩
      rw [hsd, hfv] at hwr
      rw [hsd] at hsdle
      have HSD := Lib.hid hsd
      have HFV := Lib.hid hfv
      have HWR := Lib.hid hwr
      have hsd0 : decide ((sd : Int) < 0) = false := by simp
      clear hwr hR d0 hsd hfv
      go_wp2_with fail
      go_region_law (first | (go_simp; refine (HWR.out).mono ?_; rintro e2 w3 ⟨rfl, hSk⟩; have HSK := Lib.hid hSk; clear hSk))
      obtain ⟨r3, g4, hS3⟩ := HSK.out
      have hg5 : Step (fun k => 40 ≤ k) w2 r2 w3 r3 := ((Step.refl _ G3.out.bound).drew).trans (g4.mono (fun k hk => hk.1))
      have g6 : Step KC w r w3 r3 := G3.out.trans (hg5.mono (fun k hk => .inr (.inr hk)))
      have hC3 := HC2.out.step hg5 (fun k hk h => by have := HL.out; have := HGD.out.len; omega) (by omega)
      have hB3 := HB2.out.step hg5 (by omega)
      have cE3 := (HE0.out.step g6).2.2
      rw [HEO.out] at cE3
      have G6 := Lib.hid g6
      have HC3 := Lib.hid hC3
      have HB3 := Lib.hid hB3
      have hS3' : SinkAt w3 r3 rd bk (.iface T1 x1) (c.k.map (addK (c.t.said (c.got m).length))) (c.t.put (c.got m)) := hS3
      have HS3 := Lib.hid hS3'
      clear g4 hS3 hS3' hg5 g6 hC3 hB3 HSK HWR cE G3 HC2 HB2 HS2 HYS
      by_cases h1 : n < sd
      · have hd1 : decide ((n : Int) < (sd : Int)) = true := by simp; omega
        have hd1' : decide (n < sd) = true := by simp; omega
        have HB1 := Lib.hid (buf1 (c := c) (m := m) (by rw [HN1.out]; exact hn0) (by rw [HN1.out, HSD.out]; exact h1))
        clear h1

        have hR : Res = ((c.read m).put (c.got m), 361) := by rw [← HRES.out, runM_stop (e := 361) (by rw [HB1.out]), HB1.out]
        have ht : tot = c.tot := by rw [← HTOT.out, hR]; rfl
        have hv : ev = .iface 33 (.int .i64 361) := by rw [← HEV.out, hR]; rfl
        have HR := Lib.hid hR
        subst ht
        subst hv
        clear hR
        go_wp2
        refine bodyPost_ret (v := .tuple #[.int .i64 (c.tot : Int), .iface 33 (.int .i64 361)]) (by simp [results, Tryd.f49, go_sem]) rfl ?_
        exact ⟨rfl, r3, G6.out, by rw [HR.out]; exact HC3.out, by rw [HR.out]; exact HS3.out⟩

      · have hd1 : decide ((n : Int) < (sd : Int)) = false := by simp; omega
        have hd1' : decide (n < sd) = false := by simp; omega
        have htot' : (c.tot + sd : Nat) ≤ 1000000 := by omega
        by_cases h2 : c.t.full n = true
        · have hfv2 : fv = .iface 33 (.int .i64 362) := by rw [← HFV.out, h2]; rfl
          subst hfv2
          have HB1 := Lib.hid (buf2 (c := c) (m := m) (by rw [HN1.out]; exact hn0) (by rw [HN1.out, HSD.out]; exact h1) (by rw [HN1.out]; exact h2))
          rw [HN1.out, HSD.out] at HB1
          clear h1 h2

          have hR : Res = (((c.read m).put (c.got m)).plus sd, 362) := by rw [← HRES.out, runM_stop (e := 362) (by rw [HB1.out]), HB1.out]
          have ht : tot = c.tot + sd := by rw [← HTOT.out, hR]; rfl
          have hv : ev = .iface 33 (.int .i64 362) := by rw [← HEV.out, hR]; rfl
          have HR := Lib.hid hR
          subst ht
          subst hv
          clear hR
          go_wp2
          refine bodyPost_ret (v := .tuple #[.int .i64 ((c.tot : Int) + sd), .iface 33 (.int .i64 362)]) (by simp [results, Tryd.f49, go_sem]) rfl ?_
          exact ⟨by first | rfl | (congr 3; exact (Int.natCast_add _ _).symm), r3, G6.out, by rw [HR.out]; exact HC3.out, by rw [HR.out]; exact HS3.out⟩

        · have hfv2 : fv = .nilIface := by rw [← HFV.out, if_neg h2]; rfl
          subst hfv2
          by_cases h3 : sd < n
          · have hd3 : decide ((sd : Int) < (n : Int)) = true := by simp; omega
            have hd3' : decide (sd < n) = true := by simp; omega
            have HB1 := Lib.hid (buf3 (c := c) (m := m) (by rw [HN1.out]; exact hn0) (by rw [HN1.out, HSD.out]; exact h1) (by rw [HN1.out]; exact h2) (by rw [HN1.out, HSD.out]; exact h3))
            rw [HN1.out, HSD.out] at HB1
            clear h1 h2 h3

            have hR : Res = (((c.read m).put (c.got m)).plus sd, 360) := by rw [← HRES.out, runM_stop (e := 360) (by rw [HB1.out]), HB1.out]
            have ht : tot = c.tot + sd := by rw [← HTOT.out, hR]; rfl
            have hv : ev = .iface 33 (.int .i64 360) := by rw [← HEV.out, hR]; rfl
            have HR := Lib.hid hR
            subst ht
            subst hv
            clear hR
            go_wp2
            refine bodyPost_ret (v := .tuple #[.int .i64 ((c.tot : Int) + sd), .iface 33 (.int .i64 360)]) (by simp [results, Tryd.f49, go_sem]) rfl ?_
            exact ⟨by first | rfl | (congr 3; exact (Int.natCast_add _ _).symm), r3, G6.out, by rw [HR.out]; exact HC3.out, by rw [HR.out]; exact HS3.out⟩

          · have hd3 : decide ((sd : Int) < (n : Int)) = false := by simp; omega
            have hd3' : decide (sd < n) = false := by simp; omega
            have HB1 := Lib.hid (buf4 (c := c) (m := m) (by rw [HN1.out]; exact hn0) (by rw [HN1.out, HSD.out]; exact h1) (by rw [HN1.out]; exact h2) (by rw [HN1.out, HSD.out]; exact h3))
            rw [HN1.out, HSD.out] at HB1
            clear h1 h2 h3

            by_cases he1 : e = -1
            · have q1' : ∀ w, (binOp .eql 68 ev1 eo).run Tryd.prog w = .ok (.bool true) w := fun w => by rw [Q1.out, he1]; rfl
              have HTL : RowKit.Hid (tailE (readM c.l c.s m).e = some 0) := by rw [HE1.out, he1]; exact rfl
              clear he1
              have hR : Res = (((c.read m).put (c.got m)).plus sd, 0) := by rw [← HRES.out, runM_stop (e := 0) (by rw [HB1.out]; exact HTL.out), HB1.out]
              have ht : tot = c.tot + sd := by rw [← HTOT.out, hR]; rfl
              have hv : ev = .nilIface := by rw [← HEV.out, hR]; rfl
              have HR := Lib.hid hR
              subst ht
              subst hv
              clear hR
              go_wp2
              refine bodyPost_ret (v := .tuple #[.int .i64 ((c.tot : Int) + sd), .nilIface]) (by simp [results, Tryd.f49, go_sem]) rfl ?_
              exact ⟨rfl, r3, G6.out, by rw [HR.out]; exact HC3.out, by rw [HR.out]; exact HS3.out⟩

            · have q1' : ∀ w, (binOp .eql 68 ev1 eo).run Tryd.prog w = .ok (.bool false) w := fun w => by rw [Q1.out]; simp [he1]
              by_cases he0 : e = 0
              · have q2' : ∀ w, (binOp .neq 68 ev1 .nilIface).run Tryd.prog w = .ok (.bool false) w := fun w => by rw [Q2.out, he0]; rfl
                have hnone : (bufRound m c).2 = none := by rw [HB1.out]; show tailE (readM c.l c.s m).e = none; rw [HE1.out, he0]; rfl
                obtain ⟨k1, k2⟩ := HPR.out hnone
                have hrr : runM (bufRound m) f (bufRound m c).1 = Res := by rw [← HRES.out, runM_more hnone]
                rw [HB1.out] at k1 k2 hrr
                have hfin : BufRel (bufRound m) Res p m LL (.iface T x) (.iface T1 x1) wb rd bk ba m w r f (.int .i64 ((c.tot : Int) + sd)) w3 :=
                  ⟨((c.read m).put (c.got m)).plus sd, r3, _, by first | rfl | exact congrArg (Value.int IntKind.i64) (Int.natCast_add _ _).symm, G6.out, HC3.out, HS3.out, HB3.out, k1, HGD.out.len.trans HL.out, by have := HREM.out; dsimp only at k2; omega, hrr⟩
                have HFIN := Lib.hid hfin
                clear hnone k1 k2 hrr hfin he0 he1
                go_wp2
                go_roundw
                case rel => exact ⟨f, HFIN.out⟩
                case measure => exact Nat.lt_of_le_of_lt (least_le HFIN.out) (by have := HLE.out; omega)
              · have q2' : ∀ w, (binOp .neq 68 ev1 .nilIface).run Tryd.prog w = .ok (.bool true) w := fun w => by rw [Q2.out]; simp [he0]
                have HTL : RowKit.Hid (tailE (readM c.l c.s m).e = some e) := by rw [HE1.out]; show tailE e = some e; unfold tailE; rw [if_neg he1, if_neg he0]
                clear he0 he1
                have hR : Res = (((c.read m).put (c.got m)).plus sd, e) := by rw [← HRES.out, runM_stop (e := e) (by rw [HB1.out]; exact HTL.out), HB1.out]
                have ht : tot = c.tot + sd := by rw [← HTOT.out, hR]; rfl
                have hv : ev = ev1 := by rw [← HEV.out, hR]; exact HV1.out
                have HR := Lib.hid hR
                subst ht
                subst hv
                clear hR
                go_wp2
                refine bodyPost_ret (v := .tuple #[.int .i64 ((c.tot : Int) + sd), ev]) (by simp [results, Tryd.f49, go_sem]) rfl ?_
                exact ⟨rfl, r3, G6.out, by rw [HR.out]; exact HC3.out, by rw [HR.out]; exact HS3.out⟩

end Go.Proofs.YtigfgdefgnahpaaDoor
