/-
  The walk of run (the code's): the copying by the way that there is. Not a statement of the seat.
-/
import Derived.Test.YtigfgdefgnahpaaDoorSinkB
namespace Go.Proofs.YtigfgdefgnahpaaDoor
open Go.RowKit

theorem readM_cap {x : Wr} {l : List Wr} {s : Sc} {m m' : Nat} (h3 : x.op = 3) (h : x.lim ≤ m) (h' : x.lim ≤ m') : readM (x :: l) s m = readM (x :: l) s m' := by
  rw [readM, readM, if_pos h3, if_pos h3]
  by_cases h0 : x.lim ≤ 0
  · rw [if_pos h0, if_pos h0]
  · rw [if_neg h0, if_neg h0]
    have e : ∀ k : Nat, x.lim ≤ k → (if x.lim < k then x.lim.toNat else k) = x.lim.toNat := fun k hk => by split <;> omega
    rw [e m h, e m' h']
theorem bufRound_cap {m m' : Nat} {c : Cp} (h : readM c.l c.s m = readM c.l c.s m') : bufRound m c = bufRound m' c := by
  unfold bufRound Cp.read Cp.got
  rw [h]
theorem runM_cap {m m' : Nat} : ∀ (f : Nat) (c : Cp), (∃ x l, c.l = x :: l ∧ x.op = 3 ∧ x.lim ≤ m ∧ x.lim ≤ m') → runM (bufRound m) f c = runM (bufRound m') f c
  | 0, _, _ => rfl
  | f + 1, c, h => by
    obtain ⟨x, l, hl, h3, h1, h2⟩ := h
    have hr : bufRound m c = bufRound m' c := bufRound_cap (by rw [hl]; exact readM_cap h3 h1 h2)
    have hl1 : ∃ y l', (bufRound m c).1.l = y :: l' ∧ y.op = 3 ∧ y.lim ≤ m ∧ y.lim ≤ m' := by
      have e : (bufRound m c).1.l = (readM c.l c.s m).l := by unfold bufRound; dsimp only; split <;> (try split) <;> (try split) <;> (try split) <;> rfl
      rw [e, hl, readM, if_pos h3]
      by_cases h0 : x.lim ≤ 0
      · rw [if_pos h0]; exact ⟨x, l, rfl, h3, h1, h2⟩
      · rw [if_neg h0]
        refine ⟨_, _, rfl, h3, ?_, ?_⟩ <;> (simp only [limDown]; omega)
    cases he : (bufRound m c).2 with
    | some e => rw [runM_stop he, runM_stop (by rw [← hr]; exact he), hr]
    | none =>
      rw [runM_more he, runM_more (by rw [← hr]; exact he), ← hr]
      exact runM_cap f _ hl1

/-- the copying, whole: what it leaves, its error, its way -/
def copyM (sh : Sh) (sk : Sk) (bulk m F : Nat) (c : Cp) : Cp × Int × Int :=
  if fastB sh.wr c.l then (⟨countAll (wrote c) c.l, (writesC c).s, (writesC c).k, (writesC c).t, wrote c⟩, writesE c, 1)
  else if fastK sk.rd c.k then ((readsM bulk F c).1, (readsM bulk F c).2, 2)
  else ((runM (bufRound m) F c).1, (runM (bufRound m) F c).2, 0)
def CopyW (R : Cp) (rv wv : Value) (sh : Sh) (sk : Sk) (bk : Int) (w0 : World) (r0 : Own) (w' : World) : Prop :=
  ∃ r', Step KC w0 r0 w' r' ∧ Chain w' r' sh rv R.l R.s ∧ SinkAt w' r' sk bk wv R.k R.t

set_option maxRecDepth 100000 in
set_option maxHeartbeats 2000000 in
theorem runN {eb gb : Nat} {fr to : Value} {sp cp : List Value} {sh : Sh} {sk : Sk} {bulk m p F : Nat} {rv wv : Value} {c : Cp} {w : World} {r : Own} {R : Cp} {e way : Int} {n : Nat} {ev : Value}
    (hG : GearAt w r gb fr to (limOf sh c.l) sp cp) (hC : Chain w r sh rv c.l c.s) (hS : SinkAt w r sk (bulk : Int) wv c.k c.t) (hok : CpOk p c) (hl : c.l.length < 20) (hE : EOFat w r eb) (hbnd : Bnd w r) (ht : c.tot = 0) (hF : c.s.rem p < F)
    (hbk : sk.rd = true → 1 ≤ bulk ∧ bulk ≤ 1000000) (hm1 : 1 ≤ m) (hm2 : m ≤ 1000000) (hres : copyM sh sk bulk m F c = (R, e, way)) (hn : R.tot = n) (hev : errV eb e = ev) :
    Calls Tryd.prog 32 #[.pointer (some ⟨gb, 0, none⟩), rv, wv, .int .i64 m] w (PostV (.tuple #[.int .i64 n, ev, .int .i64 way]) (CopyW R rv wv sh sk bulk w r)) := by
  obtain ⟨K0, rv0, T, x, hrvE, hm0⟩ := chainMeth hC
  clear hm0
  subst hrvE
  obtain ⟨K1, wv0, T1, x1, hwvE, hm1'⟩ := sinkMeth hS
  clear hm1'
  subst hwvE
  have as1 := chainAs86 hC 62
  have as2 := sinkAs89 hS 65
  unfold copyM at hres
  cases hf : fastB sh.wr c.l
  · rw [hf] at hres as1
    have as1' : ∀ w', (Instr.typeAssert (.iface T x) 62 86 true).run Tryd.prog w' = .ok (.tuple #[.nilIface, .bool false]) w' := as1
    clear as1
    cases hk : fastK sk.rd c.k
    · rw [hk] at hres as2
      have as2' : ∀ w', (Instr.typeAssert (.iface T1 x1) 65 89 true).run Tryd.prog w' = .ok (.tuple #[.nilIface, .bool false]) w' := as2
      clear as2
      simp only [Bool.false_eq_true, if_false, Prod.mk.injEq] at hres
      obtain ⟨hR, he, hw⟩ := hres
      subst hw
      -- by a buffer
      have hbuf : ∀ (m' : Nat) (wx : World), 1 ≤ m' → m' ≤ 1000000 → runM (bufRound m') F c = runM (bufRound m) F c → wx = w → Calls Tryd.prog 49 #[.iface T x, .iface T1 x1, .int .i64 m'] wx (PostV (.tuple #[.int .i64 n, ev]) (CopyW R (.iface T x) (.iface T1 x1) sh sk bulk w r)) := by
        intro m' wx h1 h2 h3 h4
        subst h4
        refine (bufferedN (tot := n) (ev := ev) hC hS hok hl h1 h2 hE hbnd ht hF rfl (by rw [h3, hR]; exact hn) (by rw [h3, he]; exact hev)).mono ?_
        rintro e' w' ⟨rfl, r', g1, g2, g3⟩
        rw [h3, hR] at g2 g3
        exact ⟨rfl, r', g1, g2, g3⟩
      have HB := Lib.hid hbuf
      obtain ⟨a1, n1, c1, a2, n2, c2, hgb, hBl, _, _⟩ := hG
      have g4 := hBl.cell 4 rfl
      have hcase : limOf sh c.l = .pointer none ∨ ∃ y l, c.l = y :: l ∧ y.op = 3 ∧ limOf sh c.l = .pointer (some ⟨sh.bl (l.length + 1), 0, none⟩) := by
        cases hcl : c.l with
        | nil => exact .inl rfl
        | cons y l =>
          by_cases h3 : y.op = 3
          · exact .inr ⟨y, l, rfl, h3, by simp only [limOf, if_pos h3]; rfl⟩
          · exact .inl (by simp only [limOf, if_neg h3])
      rcases hcase with hlim | ⟨y, l, hcl, h3, hlim⟩
      · rw [hlim] at g4
        clear hbuf hC hS hE hbnd hF hR he hn hev hBl hgb hlim hok hl
        go_enter Tryd.func32, Tryd.ntmps32
        go_wp2_with fail
        refine (HB.out m w hm1 hm2 rfl rfl).mono ?_
        rintro e' w' ⟨rfl, hq⟩
        have HQ := Lib.hid hq
        clear hq
        go_wp2
        refine bodyPost_ret (v := .tuple #[.int .i64 (n : Int), ev, .int .i64 0]) (by simp [results, Tryd.f32, go_sem]) rfl ?_
        exact ⟨rfl, HQ.out⟩
      · rw [hlim] at g4
        have hC2 := hC
        rw [hcl] at hC2
        obtain ⟨below, _, hW⟩ := hC2
        unfold WrapAt at hW
        rw [if_neg (by omega), if_pos h3] at hW
        obtain ⟨lb, _, _, hLB, hlb⟩ := hW
        subst hlb
        have c1' := hLB.cell 1 rfl
        by_cases hlt : y.lim < m
        · obtain ⟨m', hm'⟩ : ∃ m' : Nat, (m' : Int) = (if y.lim < 1 then 1 else y.lim) := ⟨(if y.lim < 1 then 1 else y.lim).toNat, by split <;> omega⟩
          have hcap : runM (bufRound m') F c = runM (bufRound m) F c := runM_cap F c ⟨y, l, hcl, h3, by rw [hm']; split <;> omega, by omega⟩
          have HCAP := Lib.hid hcap
          have hb1 : 1 ≤ m' := by split at hm' <;> omega
          have hb2 : m' ≤ 1000000 := by split at hm' <;> omega
          have hmx1 : (if y.lim < 1 then (1 : Int) else y.lim) = m' := hm'.symm
          have hmx2 : (if 1 < y.lim then y.lim else (1 : Int)) = m' := by rw [hm']; split <;> split <;> omega
          have hd : decide (y.lim < (m : Int)) = true := by simpa using hlt
          clear hbuf hC hS hE hbnd hF hR he hn hev hBl hgb hlim hok hl hcap hm' hLB
          go_enter Tryd.func32, Tryd.ntmps32
          go_wp2_with fail
          refine (HB.out m' w hb1 hb2 HCAP.out rfl).mono ?_
          rintro e' w' ⟨rfl, hq⟩
          have HQ := Lib.hid hq
          clear hq
          go_wp2
          refine bodyPost_ret (v := .tuple #[.int .i64 (n : Int), ev, .int .i64 0]) (by simp [results, Tryd.f32, go_sem]) rfl ?_
          exact ⟨rfl, HQ.out⟩
        · have hd : decide (y.lim < (m : Int)) = false := by simpa using hlt
          clear hbuf hC hS hE hbnd hF hR he hn hev hBl hgb hlim hok hl hLB
          go_enter Tryd.func32, Tryd.ntmps32
          go_wp2_with fail
          refine (HB.out m w hm1 hm2 rfl rfl).mono ?_
          rintro e' w' ⟨rfl, hq⟩
          have HQ := Lib.hid hq
          clear hq
          go_wp2
          refine bodyPost_ret (v := .tuple #[.int .i64 (n : Int), ev, .int .i64 0]) (by simp [results, Tryd.f32, go_sem]) rfl ?_
          exact ⟨rfl, HQ.out⟩
    · rw [hk] at hres as2
      have as2' : ∀ w', (Instr.typeAssert (.iface T1 x1) 65 89 true).run Tryd.prog w' = .ok (.tuple #[.iface T1 x1, .bool true]) w' := as2
      clear as2
      simp only [Bool.false_eq_true, if_false, if_true, Prod.mk.injEq] at hres
      obtain ⟨hR, he, hw⟩ := hres
      subst hw
      have hk2 : sk.rd = true ∧ c.k.all (·.1) = true := by simpa [fastK] using hk
      obtain ⟨b1, b2⟩ := hbk hk2.1
      obtain ⟨K, rv', hM, hin⟩ := sinkReadFrom (eb := eb) hk2.1 b1 b2 c.k hC hS hk2.2 hok hl (fun y hy => ⟨(hok.k y hy).1, by have h1 := (hok.k y hy).2; have h2 := hok.s.2.2.1; have h3 := hok.s.2.2.2; omega⟩) hE hbnd ht hF rfl
      obtain ⟨T2, x2, he2, hmt, hcf⟩ := hM
      cases he2
      have e1 : (runM (readRound bulk) F c).1.tot = n := by rw [← hn, ← hR]; rfl
      have e2 : errV eb (runM (readRound bulk) F c).2 = ev := by rw [← hev, ← he]; rfl
      rw [e1, e2] at hin
      have HIN := Lib.hid hin
      have hfin : ∀ w', RdKW (runM (readRound bulk) F c) c.k (.iface T x) (.iface T1 x1) sh sk bulk w r w' → CopyW R (.iface T x) (.iface T1 x1) sh sk bulk w r w' := by
        rintro w' ⟨r', g1, g2, g3⟩
        refine ⟨r', g1.mono (fun k hk => by unfold KC; omega), by rw [← hR]; exact g2, ?_⟩
        rw [← hR]
        simp only [readsM]
        rw [runM_k]
        exact g3
      have HF2 := Lib.hid hfin
      clear hin hC hS hE hbnd hF hR he hn hev hG hok hl hfin hk2 e1 e2
      go_enter Tryd.func32, Tryd.ntmps32
      go_wp2_with fail
      refine (HIN.out).mono ?_
      rintro e' w' ⟨rfl, hq⟩
      have HQ := Lib.hid hq
      clear hq
      go_wp2
      refine bodyPost_ret (v := .tuple #[.int .i64 (n : Int), ev, .int .i64 2]) (by simp [results, Tryd.f32, go_sem]) rfl ?_
      exact ⟨rfl, HF2.out _ HQ.out⟩
  · rw [hf] at hres as1
    have as1' : ∀ w', (Instr.typeAssert (.iface T x) 62 86 true).run Tryd.prog w' = .ok (.tuple #[.iface T x, .bool true]) w' := as1
    clear as1 as2
    simp only [if_true, Prod.mk.injEq] at hres
    obtain ⟨hR, he, hw⟩ := hres
    subst hw
    have hf2 : sh.wr = true ∧ c.l.all (fun x => x.op == 2) = true := by simpa [fastB] using hf
    obtain ⟨cl, cs, ck, ct, ctot⟩ := c
    dsimp only at *
    obtain ⟨K, rv', hM, hin⟩ := chainWriteTo (eb := eb) hf2.1 cl hC hS hf2.2 hok hl hE hbnd
    obtain ⟨T2, x2, he2, hmt, hcf⟩ := hM
    cases he2
    have e1 : wrote ⟨cl, cs, ck, ct, ctot⟩ = n := by rw [← hn, ← hR]
    have e2 : errV eb (writesE ⟨cl, cs, ck, ct, ctot⟩) = ev := by rw [← hev, ← he]
    rw [e1, e2] at hin
    have HIN := Lib.hid hin
    have hfin : ∀ w', WtW ⟨cl, cs, ck, ct, ctot⟩ (.iface T x) (.iface T1 x1) sh sk bulk w r w' → CopyW R (.iface T x) (.iface T1 x1) sh sk bulk w r w' := by
      rintro w' ⟨r', g1, g2, g3⟩
      exact ⟨r', g1.mono (fun k hk => by unfold KC; dsimp only at hk; omega), by rw [← hR]; exact g2, by rw [← hR]; exact g3⟩
    have HF2 := Lib.hid hfin
    clear hin hC hS hE hbnd hF hR he hn hev hG hok hl hfin hf2 e1 e2
    go_enter Tryd.func32, Tryd.ntmps32
    go_wp2_with fail
    refine (HIN.out).mono ?_
    rintro e' w' ⟨rfl, hq⟩
    have HQ := Lib.hid hq
    clear hq
    go_wp2
    refine bodyPost_ret (v := .tuple #[.int .i64 (n : Int), ev, .int .i64 1]) (by simp [results, Tryd.f32, go_sem]) rfl ?_
    exact ⟨rfl, HF2.out _ HQ.out⟩
end Go.Proofs.YtigfgdefgnahpaaDoor
