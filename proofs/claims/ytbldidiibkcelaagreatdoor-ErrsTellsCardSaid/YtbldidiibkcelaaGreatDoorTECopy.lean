/-
  The document's Copy of an error (walk). Not a statement of the seat.
-/
import Derived.Test.YtbldidiibkcelaaGreatDoorTEClone
namespace Go.Proofs.YtbldidiibkcelaaGreatDoor
open Go.RowKit

def CPEOK (kids : Eo) : Prop := ∀ (k i c : Int) (t : Bs) (b : Dt) (cs : List Int) (bl : Option Addr) (bn bc : Nat) (cl : Option Addr) (cn cc : Nat) (l : Option Addr) (n cap : Nat) (S : Nat → Prop) (w : World), ErAt S w ⟨k, i, c, t, b, cs, kids⟩ bl bn bc cl cn cc l n cap → (∀ x, S x → x < w.heap.size) → sizeF b.l ≤ 100000 → cs.length ≤ 100000 → kids.len ≤ 100000 → okC kids →
  Calls Tryz.prog 25 #[vE k i c t b bl bn bc cl cn cc l n cap] w (CLE k i c t b cs kids w)
def cpw3 (w : World) (k i c : Int) (t : Bs) (b : Dt) (bl : Option Addr) (bn bc : Nat) (cl : Option Addr) (cn cc : Nat) (l : Option Addr) (n cap : Nat) : World := ebox (zbox (ebox w k i c t b bl bn bc cl cn cc l n cap)) k i c t b bl bn bc cl cn cc l n cap
theorem cpw3_facts (w : World) (k i c : Int) (t : Bs) (b : Dt) (bl : Option Addr) (bn bc : Nat) (cl : Option Addr) (cn cc : Nat) (l : Option Addr) (n cap : Nat) :
    (Blk (cpw3 w k i c t b bl bn bc cl cn cc l n cap) w.heap.size (V11 k i c t b bl bn bc cl cn cc l n cap) ∧ Blk (cpw3 w k i c t b bl bn bc cl cn cc l n cap) (w.heap.size + 1) Z11 ∧ Blk (cpw3 w k i c t b bl bn bc cl cn cc l n cap) (w.heap.size + 1 + 1) (V11 k i c t b bl bn bc cl cn cc l n cap)) ∧ Below w.heap.size w (cpw3 w k i c t b bl bn bc cl cn cc l n cap) ∧ (cpw3 w k i c t b bl bn bc cl cn cc l n cap).heap.size = w.heap.size + 3 := by
  have e1 := ebox_size w k i c t b bl bn bc cl cn cc l n cap
  have h1 := ebox_blk w k i c t b bl bn bc cl cn cc l n cap
  have hb := ebox_below w k i c t b bl bn bc cl cn cc l n cap
  unfold cpw3
  generalize ebox w k i c t b bl bn bc cl cn cc l n cap = w1 at *
  have h2 := zbox_blk w1
  have hb2 := zbox_below w1
  have e2 := zbox_size w1
  generalize zbox w1 = w2 at *
  have h3 := ebox_blk w2 k i c t b bl bn bc cl cn cc l n cap
  have hb3 := ebox_below w2 k i c t b bl bn bc cl cn cc l n cap
  have e3 := ebox_size w2 k i c t b bl bn bc cl cn cc l n cap
  rw [e1] at h2
  rw [e2, e1] at h3
  exact ⟨⟨(h1.below hb2).below hb3, h2.below hb3, h3⟩, hb.trans ((hb2.mono hb.size).trans (hb3.mono (by omega))), by omega⟩
/-- the body is stored, and no codes -/
def bst (w : World) (q : Nat) (b : Dt) (bl : Option Addr) (bn bc : Nat) : World :=
  (((((w.setCell ⟨q, 4, none⟩ (.int .i64 b.k)).setCell ⟨q, 5, none⟩ (.int .i64 b.i)).setCell ⟨q, 6, none⟩ (.int .u64 b.b)).setCell ⟨q, 7, none⟩ (.string ⟨b.t.toArray⟩)).setCell ⟨q, 8, none⟩ (.slice bl bn bc)).setCell ⟨q, 9, none⟩ (.slice none 0 0)
theorem bst_blk {w : World} {q : Nat} {k i c : Int} {t : Bs} {b : Dt} {bl : Option Addr} {bn bc : Nat} {cl : Option Addr} {cn cc : Nat} {l : Option Addr} {n cap : Nat} {bl' : Option Addr} {bn' bc' : Nat} (h : Blk w q (V11 k i c t b bl bn bc cl cn cc l n cap)) : Blk (bst w q b bl' bn' bc') q (V11 k i c t b bl' bn' bc' none 0 0 l n cap) := by
  have := (((((h.set (j := 4) (.int .i64 b.k)).set (j := 5) (.int .i64 b.i)).set (j := 6) (.int .u64 b.b)).set (j := 7) (.string ⟨b.t.toArray⟩)).set (j := 8) (.slice bl' bn' bc')).set (j := 9) (.slice none 0 0)
  simpa [bst, V11] using this
theorem bst_kept {w : World} {q : Nat} (b : Dt) (bl : Option Addr) (bn bc : Nat) : Kept (N1 q) w (bst w q b bl bn bc) :=
  ((((((Kept.refl (N1 q) w).put (p := ⟨q, 4, none⟩) (.int .i64 b.k) (fun _ => rfl)).put (p := ⟨q, 5, none⟩) (.int .i64 b.i) (fun _ => rfl)).put (p := ⟨q, 6, none⟩) (.int .u64 b.b) (fun _ => rfl)).put (p := ⟨q, 7, none⟩) (.string ⟨b.t.toArray⟩) (fun _ => rfl)).put (p := ⟨q, 8, none⟩) (.slice bl bn bc) (fun _ => rfl)).put (p := ⟨q, 9, none⟩) (.slice none 0 0) (fun _ => rfl)
theorem ecp_fin {w w4 wr : World} {kids : Eo} {k i c : Int} {t : Bs} {b : Dt} {cs : List Int} {bl : Option Addr} {bn bc : Nat} {cl : Option Addr} {cn cc : Nat} {l : Option Addr} {n cap z q : Nat} {vs : List Value} {tmps : Array Value} (ht : tmps.getD 2 undef = .pointer (some ⟨z, 0, none⟩))
    (hlt : q < w4.heap.size ∧ z < w4.heap.size ∧ w.heap.size ≤ q ∧ w.heap.size ≤ z ∧ q ≠ z ∧ w.heap.size + 3 ≤ w4.heap.size ∧ q < w.heap.size + 3 ∧ z < w.heap.size + 3) (hBW : Below w.heap.size w w4) (hZ : Blk wr z Z11) (hR : Row w4.heap.size wr 11 l n cap vs ∧ EAt (fun x => w4.heap.size ≤ x ∧ blockOf l ≠ some x) wr kids vs)
    (hBC : BC (w.heap.size + 3) w4 b cs bl bn bc cl cn cc) (hK : Kept (N1 q) w4 wr) (hsz : w4.heap.size ≤ wr.heap.size) :
    bodyPost Tryz.prog Tryz.f25 (CLE k i c t b cs kids w) Exit.ret { tmps := tmps, defers := [] } (st11 wr z (.int .i64 k) (.int .i64 i) (.int .i64 c) (.string ⟨t.toArray⟩) (.int .i64 b.k) (.int .i64 b.i) (.int .u64 b.b) (.string ⟨b.t.toArray⟩) (.slice bl bn bc) (.slice cl cn cc) (.slice l n cap)) := by
  refine bodyPost_ret (er_res Tryz.results25 ht hZ) rfl ?_
  have h1 := st11_kept (w := wr) (b := z) (.int .i64 k) (.int .i64 i) (.int .i64 c) (.string ⟨t.toArray⟩) (.int .i64 b.k) (.int .i64 b.i) (.int .u64 b.b) (.string ⟨b.t.toArray⟩) (.slice bl bn bc) (.slice cl cn cc) (.slice l n cap)
  generalize st11 wr z (.int .i64 k) (.int .i64 i) (.int .i64 c) (.string ⟨t.toArray⟩) (.int .i64 b.k) (.int .i64 b.i) (.int .u64 b.b) (.string ⟨b.t.toArray⟩) (.slice bl bn bc) (.slice cl cn cc) (.slice l n cap) = wz at *
  have hkz : Below w.heap.size w wz := hBW.trans ((hK.below (B := w.heap.size) (by omega) (fun x hx e => by unfold N1 at e; omega)).trans (h1.below (by omega) (fun x hx e => by unfold N1 at e; omega)))
  refine ⟨bl, bn, bc, cl, cn, cc, l, n, cap, vs, rfl, ?_, ?_, ⟨(hR.1.keep h1 (fun x hx e => ?_)).mono (by omega), EAt.same _ hR.2 (fun x hx hlt => h1.block x hlt (fun e => ?_)) (fun x hx _ => ⟨?_, hx.2⟩)⟩, hkz⟩
  · refine (hBC.1.same (w' := wr) (fun x hx hl => hK.block x hl (fun e => ?_)) (fun x hx _ => hx)).same (fun x hx hl => h1.block x hl (fun e => ?_)) (fun x hx _ => ?_)
    all_goals
      have h9 : w.heap.size + 3 ≤ x := hx
      try unfold N1 at e
      omega
  · exact ((hBC.2.keep hK (fun x hx e => by have := (hBC.2.lt x hx).1; unfold N1 at e; omega)).keep h1 (fun x hx e => by have := (hBC.2.lt x hx).1; unfold N1 at e; omega)).mono (by omega)
  · have := (hR.1.lt x hx).1; unfold N1 at e; omega
  · have := hx.1; unfold N1 at e; omega
  · have := hx.1; omega
theorem EoAt.own {S : Nat → Prop} {w : World} {f : Eo} {l : Option Addr} {n cap b : Nat} (h : EoAt S w f l n cap) (hn : 0 < n) (hb : blockOf l = some b) : S b := by
  obtain ⟨vs, ⟨_, h2⟩, _⟩ := h
  exact h2 b hn hb
set_option maxHeartbeats 16000000 in
set_option maxRecDepth 100000 in
theorem ecopyN {kids : Eo} (hall : kids.All CPEOK) : CPEOK kids := by
  intro k i c t b cs bl bn bc cl cn cc l n cap S w hE hS hsb hsc hsk hok
  obtain ⟨i0, hi, hy0, hy1, hy2⟩ := info_parts errInfo
  obtain ⟨i1, hi1, hc0, hc1, hc2⟩ := info_parts codeInfo
  obtain ⟨⟨hP, hZ, hQ⟩, hBW, hsz3⟩ := cpw3_facts w k i c t b bl bn bc cl cn cc l n cap
  have hlen := hE.2.2.len
  have hcn : cs.length = cn * 1 := by have h1 := hE.2.1.1.1; rw [I8_length] at h1; exact h1
  have hcn9 : cn ≤ 100000 := by omega
  have hn9 : n ≤ 100000 := by have h1 : kids.len = n := hlen; omega
  have HF := Lib.hid (hE.2.2)
  have HC1 := Lib.hid (fun (wx : World) (hx : Below w.heap.size w wx) => copyG b.l b.k b.i b.b b.t bl bn bc S wx (hE.1.same (w' := wx) (fun x hx2 hlt => hx.block x hlt) (fun _ hx2 _ => hx2)) (fun x hx2 => Nat.lt_of_lt_of_le (hS x hx2) hx.size) hsb)
  have HSRC := Lib.hid (fun (wx : World) (hx : Below w.heap.size w wx) => Src.ofRd (P := Tryz.prog) (w := wx) (tx := 26) Tryz.underlying26 (hE.2.1.1.same0 (w' := wx) (fun x _ _ hlt => hx.block x hlt)) (fun u hu => by
      simp only [I8, List.mem_map] at hu
      obtain ⟨x, _, rfl⟩ := hu
      rfl))
  have HS := Lib.hid hS
  have HALL := Lib.hid hall
  have HSZ := Lib.hid (And.intro hsk hok)
  have HLEN := Lib.hid (show kids.len = n from hlen)
  have H3 := Lib.hid hsz3
  have HBW := Lib.hid hBW
  clear hE hS hall hsb hsc hsk hok hlen hcn hBW
  unfold vE
  go_enter Tryz.func25, Tryz.ntmps25
  go_upto_region 2 with (fail)
  change Code.wp _ _ _ _ (cpw3 w k i c t b bl bn bc cl cn cc l n cap)
  generalize cpw3 w k i c t b bl bn bc cl cn cc l n cap = w3 at *
  obtain ⟨z, hz⟩ : ∃ z, z = w.heap.size + 1 := ⟨_, rfl⟩
  obtain ⟨q, hq⟩ : ∃ q, q = w.heap.size + 1 + 1 := ⟨_, rfl⟩
  obtain ⟨p, hp⟩ : ∃ p, p = w.heap.size := ⟨_, rfl⟩
  rw [← hp] at hP
  rw [← hq] at hQ
  rw [← hz] at hZ
  rw [← hq, ← hz, ← hp]
  have HPQ := Lib.hid (And.intro hq (And.intro hz hp))
  have HZ3 := Lib.hid hZ
  have HQ3 := Lib.hid hQ
  have HP3 := Lib.hid hP
  have p4 := hP.cell 4 rfl
  have p5 := hP.cell 5 rfl
  have p6 := hP.cell 6 rfl
  have p7 := hP.cell 7 rfl
  have p8 := hP.cell 8 rfl
  clear hZ hQ hP hz hq hp hsz3
  go_upto_region 4 with (go_at_call 60; (with_reducible refine (HC1.out _ HBW.out).mono ?_); intro eA wv hcl; obtain ⟨bl1, bn1, bc1, rfl, hFv, hbv⟩ := hcl; have HFV := Lib.hid hFv; have HBV := Lib.hid hbv; have HQV := Lib.hid (HQ3.out.below hbv); have q4 := HQV.out.cell 4 rfl; have q5 := HQV.out.cell 5 rfl; have q6 := HQV.out.cell 6 rfl; have q7 := HQV.out.cell 7 rfl; have q8 := HQV.out.cell 8 rfl; have q9 := HQV.out.cell 9 rfl; have g4 := HQV.out.free 4 (by simp [V11]); have g5 := HQV.out.free 5 (by simp [V11]); have g6 := HQV.out.free 6 (by simp [V11]); have g7 := HQV.out.free 7 (by simp [V11]); have g8 := HQV.out.free 8 (by simp [V11]); have g9 := HQV.out.free 9 (by simp [V11]); clear hFv hbv)
  change Code.wp _ _ _ _ (bst wv q b bl1 bn1 bc1)
  have hQ4 : Blk (bst wv q b bl1 bn1 bc1) q (V11 k i c t b bl1 bn1 bc1 none 0 0 l n cap) := bst_blk HQV.out
  have hk4 := bst_kept (w := wv) (q := q) b bl1 bn1 bc1
  clear q4 q5 q6 q7 q8 q9 g4 g5 g6 g7 g8 g9 p4 p5 p6 p7 p8
  generalize bst wv q b bl1 bn1 bc1 = w5 at *
  have HP9 := HPQ.out
  have H39 := H3.out
  have hK35 : Kept (N1 q) w3 w5 := (Kept.of' HBV.out).trans hk4
  have hP5 := HP3.out.keep hK35 (by unfold N1; omega)
  have HP5 := Lib.hid hP5
  have HZ5 := Lib.hid (HZ3.out.keep hK35 (by unfold N1; omega))
  have HK35 := Lib.hid hK35
  have HK4 := Lib.hid hk4
  have HQ5 := Lib.hid hQ4
  have hBW5 : Below w.heap.size w w5 := HBW.out.trans (hK35.below (by omega) (fun x hx e => by unfold N1 at e; omega))
  have HSR := Lib.hid (HSRC.out w5 hBW5)
  have HBW5 := Lib.hid hBW5
  have x9 := hP5.cell 9 rfl
  have x10 := hP5.cell 10 rfl
  have q9 := hQ4.cell 9 rfl
  have g9 := hQ4.free 9 (by simp [V11])
  have HS35 := Lib.hid hK35.size
  clear hQ4 hk4 hK35 hP5 hBW5 HP9 H39 HC1 HSRC HQ3 HP3 HZ3
  go_upto_region 5 with (at_builtin; refine wpList_append_row rfl _ _ 26 26 rfl 2 i1 (.int .i64 0) 1 8 Tryz.underlying26 hi1 hc0 hc1 hc2 rfl rfl (Row.nil w5.heap.size _ _) cn _ HSR.out (by unfold maxLen; omega) (by omega) (by simp) ?_; intro cl1 cc1 w6 hrow hgr hbk; rw [show 0 + cn = cn from by omega, List.nil_append] at hrow; have HRC := Lib.hid hrow; have hk6 : Kept (fun _ => False) w5 w6 := (Kept.refl _ _).grown hgr (fun b h _ => by cases h); have HK56 := Lib.hid hk6; have HQ6 := Lib.hid (HQ5.out.keep hk6 (fun h => h.elim)); have HP6 := Lib.hid (HP5.out.keep hk6 (fun h => h.elim)); have HZ6 := Lib.hid (HZ5.out.keep hk6 (fun h => h.elim)); replace q9 := HQ6.out.cell 9 rfl; have q10 := HQ6.out.cell 10 rfl; have g10 := HQ6.out.free 10 (by simp [V11]); replace g9 := HQ6.out.free 9 (by simp [V11]); replace x9 := HP6.out.cell 9 rfl; replace x10 := HP6.out.cell 10 rfl; clear hrow hgr hbk hk6)
  change Code.wp _ _ _ _ (w6.setCell ⟨q, 9, none⟩ (.slice cl1 cn cc1))
  have hQ7 : Blk (w6.setCell ⟨q, 9, none⟩ (.slice cl1 cn cc1)) q (V11 k i c t b bl1 bn1 bc1 cl1 cn cc1 l n cap) := by simpa [V11] using HQ6.out.set (j := 9) (.slice cl1 cn cc1)
  have hk7 : Kept (N1 q) w6 (w6.setCell ⟨q, 9, none⟩ (.slice cl1 cn cc1)) := (Kept.refl _ _).put (p := ⟨q, 9, none⟩) _ (fun _ => rfl)
  clear q9 g9 q10 g10
  generalize w6.setCell ⟨q, 9, none⟩ (.slice cl1 cn cc1) = w7 at *
  have q10 := hQ7.cell 10 rfl
  have g10 := hQ7.free 10 (by simp [V11])
  have x10 := (HP6.out.keep hk7 (by have := HPQ.out; unfold N1; omega)).cell 10 rfl
  go_upto_region 6 with (fail)
  change Code.wp _ _ _ _ (w7.setCell ⟨q, 10, none⟩ (.slice none 0 0))
  have hQ8 : Blk (w7.setCell ⟨q, 10, none⟩ (.slice none 0 0)) q (V11 k i c t b bl1 bn1 bc1 cl1 cn cc1 none 0 0) := by simpa [V11] using hQ7.set (j := 10) (.slice none 0 0)
  have hk8 : Kept (N1 q) w6 (w7.setCell ⟨q, 10, none⟩ (.slice none 0 0)) := hk7.trans ((Kept.refl _ _).put (p := ⟨q, 10, none⟩) _ (fun _ => rfl))
  clear q10 g10 x10 hQ7 hk7
  generalize w7.setCell ⟨q, 10, none⟩ (.slice none 0 0) = w4 at *
  have HP9 := HPQ.out
  have H39 := H3.out
  have hs35 := HS35.out
  have hK54 : Kept (N1 q) w5 w4 := (HK56.out.mono (fun _ _ h => h.elim)).trans hk8
  have hs54 := hK54.size
  have hs56 := HK56.out.size
  have hs64 := hk8.size
  have hP4 := HP6.out.keep hk8 (by unfold N1; omega)
  have hZ4 := HZ6.out.keep hk8 (by unfold N1; omega)
  have hBW4 : Below w.heap.size w w4 := HBW5.out.trans (hK54.below (by omega) (fun x hx e => by unfold N1 at e; omega))
  have hBC : BC (w.heap.size + 3) w4 b cs bl1 bn1 bc1 cl1 cn cc1 := by
    have hsv := HBV.out.size
    refine ⟨?_, (HRC.out.keep hk8 (fun x hx e => ?_)).mono (by omega)⟩
    · refine ((HFV.out.same (w' := w5) (fun x hx hl => HK4.out.block x hl (fun e => ?_)) (fun x hx _ => hx)).same (w' := w4) (fun x hx hl => hK54.block x hl (fun e => ?_)) (fun x hx _ => ?_))
      · have h1 : w3.heap.size ≤ x := hx
        unfold N1 at e; omega
      · have h1 : w3.heap.size ≤ x := hx
        unfold N1 at e; omega
      · have h1 : w3.heap.size ≤ x := hx
        omega
    · have := (HRC.out.lt x hx).1; unfold N1 at e; omega
  have HF4 := Lib.hid (HF.out.same (w' := w4) (fun x hx hlt => hBW4.block x (HS.out x hx)) (fun _ hx _ => hx))
  have H0 := Lib.hid (show CeRel kids k i c t b bl1 bn1 bc1 cl1 cn cc1 w4 q (.int .i64 0) w4 from ⟨.nil, kids, none, 0, [], rfl, rfl, ⟨Row.nil _ _ _, rfl⟩, hQ8, Kept.refl _ _⟩)
  have HBC := Lib.hid hBC
  have HZ4 := Lib.hid hZ4
  have HP4 := Lib.hid hP4
  have HBW4 := Lib.hid hBW4
  have HQLT := Lib.hid (show q < w4.heap.size ∧ z < w4.heap.size ∧ w.heap.size ≤ q ∧ w.heap.size ≤ z ∧ q ≠ z ∧ w.heap.size + 3 ≤ w4.heap.size ∧ q < w.heap.size + 3 ∧ z < w.heap.size + 3 from by omega)
  have HPLT := Lib.hid (show p < w4.heap.size ∧ p ≠ q from by omega)
  have x10 := hP4.cell 10 rfl
  clear hQ8 hk8 hK54 hs54 hs56 hs64 hs35 hP4 hZ4 hBW4 hBC HP9 H39 HFV HBV HQV HSR HBW5 HS35 HRC HK56 HQ6 HP6 HZ6 HK35 HK4 HQ5 HP5 HZ5 HBW HF H3 HPQ hi1 hc0 hc1 hc2 hcn9
  go_wp2_with fail
  clear x10
  go_loopw [21] (fun t21 wr => CeRel kids k i c t b bl1 bn1 bc1 cl1 cn cc1 w4 q t21 wr) (fun t21 _ => n - (intOf t21).toNat)
  case atStart => exact H0.out
  case round =>
    obtain ⟨dn, rest, l1, c1, vs, rfl, hk, hR, hQr, hK⟩ := hrel
    have hlen := HLEN.out
    rw [hk, Eo.len_app] at hlen
    have HR := Lib.hid hR
    have HQR := Lib.hid hQr
    have HK := Lib.hid hK
    have HZR := Lib.hid (HZ4.out.keep hK (by have := HQLT.out; unfold N1; omega))
    have HPR := Lib.hid (HP4.out.keep hK (by have := HPLT.out; unfold N1; omega))
    have HB3 := Lib.hid hK.size
    clear hR H0
    cases rest with
    | nil =>
      have hj : ¬ (dn.len : Int) < (n : Int) := by have : Eo.len .nil = 0 := rfl; omega
      have hke : kids = dn := by rw [hk, Eo.app_nil]
      have HKE := Lib.hid hke
      have q0 := hQr.cell 0 rfl
      have q1 := hQr.cell 1 rfl
      have q2 := hQr.cell 2 rfl
      have q3 := hQr.cell 3 rfl
      have q4 := hQr.cell 4 rfl
      have q5 := hQr.cell 5 rfl
      have q6 := hQr.cell 6 rfl
      have q7 := hQr.cell 7 rfl
      have q8 := hQr.cell 8 rfl
      have q9 := hQr.cell 9 rfl
      have q10 := hQr.cell 10 rfl
      have z0 := HZR.out.cell 0 rfl
      have f0 := HZR.out.free 0 (by simp [Z11])
      have z1 := HZR.out.cell 1 rfl
      have f1 := HZR.out.free 1 (by simp [Z11])
      have z2 := HZR.out.cell 2 rfl
      have f2 := HZR.out.free 2 (by simp [Z11])
      have z3 := HZR.out.cell 3 rfl
      have f3 := HZR.out.free 3 (by simp [Z11])
      have z4 := HZR.out.cell 4 rfl
      have f4 := HZR.out.free 4 (by simp [Z11])
      have z5 := HZR.out.cell 5 rfl
      have f5 := HZR.out.free 5 (by simp [Z11])
      have z6 := HZR.out.cell 6 rfl
      have f6 := HZR.out.free 6 (by simp [Z11])
      have z7 := HZR.out.cell 7 rfl
      have f7 := HZR.out.free 7 (by simp [Z11])
      have z8 := HZR.out.cell 8 rfl
      have f8 := HZR.out.free 8 (by simp [Z11])
      have z9 := HZR.out.cell 9 rfl
      have f9 := HZR.out.free 9 (by simp [Z11])
      have z10 := HZR.out.cell 10 rfl
      have f10 := HZR.out.free 10 (by simp [Z11])
      clear hk hlen hke hQr hK
      go_wp2_with fail
      rw [HKE.out]
      exact ecp_fin rfl HQLT.out HBW4.out HZR.out HR.out HBC.out HK.out HB3.out
    | cons k2 i2 c2 t2 b2 cs2 ks r2 =>
      have hlr : (Eo.cons k2 i2 c2 t2 b2 cs2 ks r2).len = r2.len + 1 := rfl
      have hF := HF4.out.same (w' := wr) (fun x hx hlt => hK.block x hlt (fun e => by have := HS.out x hx; have := HQLT.out; unfold N1 at e; omega)) (fun x hx _ => hx)
      rw [hk] at hF
      obtain ⟨bb, off, bl2, bn2, bc2, cl2, cn2, cc2, a2, n2, cp2, rfl, hkF, he, hnb2, hjn⟩ := hF.elem
      have e0 := he 0 (by omega)
      have e1 := he 1 (by omega)
      have e2 := he 2 (by omega)
      have e3 := he 3 (by omega)
      have e4 := he 4 (by omega)
      have e5 := he 5 (by omega)
      have e6 := he 6 (by omega)
      have e7 := he 7 (by omega)
      have e8 := he 8 (by omega)
      have e9 := he 9 (by omega)
      have e10 := he 10 (by omega)
      simp only [V11, List.getElem?_cons_zero, List.getElem?_cons_succ, Nat.add_zero] at e0 e1 e2 e3 e4 e5 e6 e7 e8 e9 e10
      have hj : (dn.len : Int) < (n : Int) := by omega
      have hOK : CPEOK ks := by
        have hal := HALL.out
        rw [hk] at hal
        exact (Eo.All.split dn hal).1
      have hsz9 := HSZ.out
      have hok9 : okC (.cons k2 i2 c2 t2 b2 cs2 ks r2) := okC_app dn (hk ▸ hsz9.2)
      have HC := Lib.hid (fun (wx : World) (hx : Below wr.heap.size wr wx) => hOK k2 i2 c2 t2 b2 cs2 bl2 bn2 bc2 cl2 cn2 cc2 a2 n2 cp2 S wx (hkF.same (w' := wx) (fun x _ hlt => hx.block x hlt) (fun _ hx2 _ => hx2)) (fun x hx2 => Nat.lt_of_lt_of_le (HS.out x hx2) (by have := HQLT.out; have := HB3.out; have := hx.size; omega)) hok9.1 hok9.2.1 hok9.2.2.1 hok9.2.2.2.1)
      unfold vE at HC
      have HKK := Lib.hid hk
      have hdl : dn.len ≤ 100000 := by omega
      have HBB := Lib.hid (show bb < w4.heap.size from by
        have h1 := HS.out bb (HF4.out.own (by omega) rfl)
        have := HQLT.out
        omega)
      have x10 := HPR.out.cell 10 rfl
      have q10 := hQr.cell 10 rfl
      generalize hjj : dn.len = j at *
      have HJJ := Lib.hid hjj
      have HJ := Lib.hid hjn
      have HKEEP := Lib.hid (show ∀ wx, Below wr.heap.size wr wx → wx.cell? ⟨p, 10, none⟩ = some (.slice (some ⟨bb, off, none⟩) n cap) ∧ wx.cell? ⟨q, 10, none⟩ = some (.slice l1 j c1) ∧ (wx.cell? ⟨bb, off + j * 11, none⟩ = some (.int .i64 k2) ∧ wx.cell? ⟨bb, off + j * 11 + 1, none⟩ = some (.int .i64 i2) ∧ wx.cell? ⟨bb, off + j * 11 + 2, none⟩ = some (.int .i64 c2) ∧ wx.cell? ⟨bb, off + j * 11 + 3, none⟩ = some (.string ⟨t2.toArray⟩) ∧ wx.cell? ⟨bb, off + j * 11 + 4, none⟩ = some (.int .i64 b2.k) ∧ wx.cell? ⟨bb, off + j * 11 + 5, none⟩ = some (.int .i64 b2.i) ∧ wx.cell? ⟨bb, off + j * 11 + 6, none⟩ = some (.int .u64 b2.b) ∧ wx.cell? ⟨bb, off + j * 11 + 7, none⟩ = some (.string ⟨b2.t.toArray⟩) ∧ wx.cell? ⟨bb, off + j * 11 + 8, none⟩ = some (.slice bl2 bn2 bc2) ∧ wx.cell? ⟨bb, off + j * 11 + 9, none⟩ = some (.slice cl2 cn2 cc2) ∧ wx.cell? ⟨bb, off + j * 11 + 10, none⟩ = some (.slice a2 n2 cp2)) from fun wx hx => ⟨cellAt hx x10, cellAt hx q10, cellAt hx e0, cellAt hx e1, cellAt hx e2, cellAt hx e3, cellAt hx e4, cellAt hx e5, cellAt hx e6, cellAt hx e7, cellAt hx e8, cellAt hx e9, cellAt hx e10⟩)
      clear hkF hOK hk hlen hF hlr hsz9 hok9 hjj hQr hK he x10 q10 e0 e1 e2 e3 e4 e5 e6 e7 e8 e9 e10
      go_wp2_with fail
      refine wp_region_L (S := fun wx : World => wx.cell? ⟨p, 10, none⟩ = some (.slice (some ⟨bb, off, none⟩) n cap) ∧ wx.cell? ⟨q, 10, none⟩ = some (.slice l1 j c1) ∧ (wx.cell? ⟨bb, off + j * 11, none⟩ = some (.int .i64 k2) ∧ wx.cell? ⟨bb, off + j * 11 + 1, none⟩ = some (.int .i64 i2) ∧ wx.cell? ⟨bb, off + j * 11 + 2, none⟩ = some (.int .i64 c2) ∧ wx.cell? ⟨bb, off + j * 11 + 3, none⟩ = some (.string ⟨t2.toArray⟩) ∧ wx.cell? ⟨bb, off + j * 11 + 4, none⟩ = some (.int .i64 b2.k) ∧ wx.cell? ⟨bb, off + j * 11 + 5, none⟩ = some (.int .i64 b2.i) ∧ wx.cell? ⟨bb, off + j * 11 + 6, none⟩ = some (.int .u64 b2.b) ∧ wx.cell? ⟨bb, off + j * 11 + 7, none⟩ = some (.string ⟨b2.t.toArray⟩) ∧ wx.cell? ⟨bb, off + j * 11 + 8, none⟩ = some (.slice bl2 bn2 bc2) ∧ wx.cell? ⟨bb, off + j * 11 + 9, none⟩ = some (.slice cl2 cn2 cc2) ∧ wx.cell? ⟨bb, off + j * 11 + 10, none⟩ = some (.slice a2 n2 cp2))) (by kernel_rfl) ?_ (fun hHeld => ?_)
      · exact HKEEP.out _ (Below.refl _ _).drew
      refine takeL (i := 0) 1 (v := ?vb0) rfl (by kernel_rfl) (by kernel_rfl) (by kernel_rfl) (by kernel_rfl) (by kernel_rfl) (fun _ _ _ h => h) (Or.inl ⟨by rfl, ?hz0⟩) (by assumption) ?rst0
      case hz0 => (intro w9 hSw; (try dsimp only at hSw); go_simp; try with_reducible rfl)
      try simp only [Act.put, List.setIfInBounds_toArray, List.set_cons_zero, List.set_cons_succ]
      refine takeL (i := 1) 9 (v := ?vb1) rfl (by kernel_rfl) (by kernel_rfl) (by kernel_rfl) (by kernel_rfl) (by kernel_rfl) (fun _ _ _ h => h) (Or.inl ⟨by rfl, ?hz1⟩) (by assumption) ?rst1
      case hz1 => (intro w9 hSw; (try dsimp only at hSw); go_simp; try with_reducible rfl)
      try simp only [Act.put, List.setIfInBounds_toArray, List.set_cons_zero, List.set_cons_succ]
      refine takeL (i := 2) 3 (v := ?vb2) rfl (by kernel_rfl) (by kernel_rfl) (by kernel_rfl) (by kernel_rfl) (by kernel_rfl) (fun _ _ _ h => h) (Or.inl ⟨by rfl, ?hz2⟩) (by assumption) ?rst2
      case hz2 => (intro w9 hSw; (try dsimp only at hSw); go_simp; try with_reducible rfl)
      try simp only [Act.put, List.setIfInBounds_toArray, List.set_cons_zero, List.set_cons_succ]
      refine takeL (i := 3) 5 (v := ?vb3) rfl (by kernel_rfl) (by kernel_rfl) (by kernel_rfl) (by kernel_rfl) (by kernel_rfl) (fun _ _ _ h => h) (Or.inl ⟨by rfl, ?hz3⟩) (by assumption) ?rst3
      case hz3 => (intro w9 hSw; (try dsimp only at hSw); go_simp; try with_reducible rfl)
      try simp only [Act.put, List.setIfInBounds_toArray, List.set_cons_zero, List.set_cons_succ]
      refine takeL (i := 4) 5 (v := ?vb4) rfl (by kernel_rfl) (by kernel_rfl) (by kernel_rfl) (by kernel_rfl) (by kernel_rfl) (fun _ _ _ h => h) (Or.inl ⟨by rfl, ?hz4⟩) (by assumption) ?rst4
      case hz4 => (intro w9 hSw; (try dsimp only at hSw); go_simp; try with_reducible rfl)
      try simp only [Act.put, List.setIfInBounds_toArray, List.set_cons_zero, List.set_cons_succ]
      refine takeL (i := 5) 6 (v := ?vb5) rfl (by kernel_rfl) (by kernel_rfl) (by kernel_rfl) (by kernel_rfl) (by kernel_rfl) (fun _ _ _ h => h) (Or.inl ⟨by rfl, ?hz5⟩) (by assumption) ?rst5
      case hz5 => (intro w9 hSw; (try dsimp only at hSw); go_simp; try with_reducible rfl)
      try simp only [Act.put, List.setIfInBounds_toArray, List.set_cons_zero, List.set_cons_succ]
      refine takeL (i := 6) 7 (v := ?vb6) rfl (by kernel_rfl) (by kernel_rfl) (by kernel_rfl) (by kernel_rfl) (by kernel_rfl) (fun _ _ _ h => h) (Or.inl ⟨by rfl, ?hz6⟩) (by assumption) ?rst6
      case hz6 => (intro w9 hSw; (try dsimp only at hSw); go_simp; try with_reducible rfl)
      try simp only [Act.put, List.setIfInBounds_toArray, List.set_cons_zero, List.set_cons_succ]
      refine oneL (i := 7) (by kernel_rfl) rfl (fun K hK => ?_)
      (go_simp; go_at_call 25; (with_reducible refine (HC.out _ (Below.refl _ _).drew).mono ?_); intro eA wv hcl; obtain ⟨blv, bnv, bcv, clv, cnv, ccv, lv, nv, cv, rfl, hEv, hbv⟩ := CLE.er hcl; clear hcl; unfold vE; have HEV := Lib.hid hEv; have HBV := Lib.hid (bel_tr (Below.refl wr.heap.size wr).drew hbv); clear hEv hbv)
      refine hK.out _ _ ?_ (fun hHeld2 => ?_)
      · exact HKEEP.out _ HBV.out
      clear hK K hHeld
      try simp only [Act.put, List.setIfInBounds_toArray, List.set_cons_zero, List.set_cons_succ]
      refine oneL (i := 8) (by kernel_rfl) rfl (fun K hK => ?_)
      go_simp
      refine hK.out _ _ ?_ (fun hHeld => ?_)
      · exact HKEEP.out _ (HBV.out.alloc HBV.out.size _)
      clear hK K hHeld2
      try simp only [Act.put, List.setIfInBounds_toArray, List.set_cons_zero, List.set_cons_succ]
      have HR9 := fun o => Lib.hid ((HR.out.1.below HBV.out).alloc o)
      have HS9 := Lib.hid (show Src Tryz.prog 11 27 (.slice (some ⟨wv.heap.size, 0, none⟩) 1 1) 1 (V11 k2 i2 c2 t2 b2 blv bnv bcv clv cnv ccv lv nv cv) (wv.alloc (.cells #[.int .i64 k2, .int .i64 i2, .int .i64 c2, .string ⟨t2.toArray⟩, .int .i64 b2.k, .int .i64 b2.i, .int .u64 b2.b, .string ⟨b2.t.toArray⟩, .slice blv bnv bcv, .slice clv cnv ccv, .slice lv nv cv] 29)) from Src.oneRow (P := Tryz.prog) (w := wv) (tx := 27) Tryz.underlying27 (V11 k2 i2 c2 t2 b2 blv bnv bcv clv cnv ccv lv nv cv) #[.int .i64 k2, .int .i64 i2, .int .i64 c2, .string ⟨t2.toArray⟩, .int .i64 b2.k, .int .i64 b2.i, .int .u64 b2.b, .string ⟨b2.t.toArray⟩, .slice blv bnv bcv, .slice clv cnv ccv, .slice lv nv cv] 29 (g := wv.heap.size) rfl rfl rfl (V11_one _ _ _ _ _ _ _ _ _ _ _ _ _ _))
      have hle9 : w4.heap.size ≤ wv.heap.size := Nat.le_trans HB3.out HBV.out.size
      refine oneL (i := 9) (by kernel_rfl) rfl (fun K hK => ?_)
      refine step_append_row rfl _ _ 27 27 rfl 29 i0 (.agg #[.int .i64 0, .int .i64 0, .int .i64 0, .string ⟨#[]⟩, .int .i64 0, .int .i64 0, .int .u64 0, .string ⟨#[]⟩, .slice none 0 0, .slice none 0 0, .slice none 0 0]) 11 152 Tryz.underlying27 hi hy0 hy1 hy2 rfl rfl (HR9 _).out 1 _ HS9.out (by unfold maxLen; omega) (by omega) (by simp; omega) ?_
      intro a4 c4 w5 hrow hgr hbk
      have HR4 := Lib.hid hrow
      have HG4 := Lib.hid hgr
      have HB4 := Lib.hid hbk
      clear hrow hgr hbk
      have hlp : ∀ x, blockOf l1 = some x → w4.heap.size ≤ x := fun x hx => (HR.out.1.lt x hx).1
      have hkeep4 : ∀ x, x < w4.heap.size → w5.heap[x]? = wr.heap[x]? := fun x hx => by
        have hxr : x < wr.heap.size := Nat.lt_of_lt_of_le hx HB3.out
        rw [HG4.out.block x (by have := HBV.out.size; simp; omega) (fun e => by have := hlp x e.symm; omega), Below.heap_alloc _ _ _ (by have := HBV.out.size; omega), HBV.out.block x hxr]
      have hSr := HKEEP.out wr (Below.refl _ _)
      have cp := fun (b o : Nat) (hb : b < w4.heap.size) (v : Value) (h : wr.cell? ⟨b, o, none⟩ = some v) => (World.cell?_of_block (a := ⟨b, o, none⟩) (hkeep4 b hb)).trans h
      have hQ4 := HQR.out.same (hkeep4 q HQLT.out.1)
      have HQ4 := Lib.hid hQ4
      have hf4 := hQ4.free 10 (by simp [V11])
      have hS4 : w5.cell? ⟨p, 10, none⟩ = some (.slice (some ⟨bb, off, none⟩) n cap) ∧ w5.cell? ⟨q, 10, none⟩ = some (.slice l1 j c1) ∧ (w5.cell? ⟨bb, off + j * 11, none⟩ = some (.int .i64 k2) ∧ w5.cell? ⟨bb, off + j * 11 + 1, none⟩ = some (.int .i64 i2) ∧ w5.cell? ⟨bb, off + j * 11 + 2, none⟩ = some (.int .i64 c2) ∧ w5.cell? ⟨bb, off + j * 11 + 3, none⟩ = some (.string ⟨t2.toArray⟩) ∧ w5.cell? ⟨bb, off + j * 11 + 4, none⟩ = some (.int .i64 b2.k) ∧ w5.cell? ⟨bb, off + j * 11 + 5, none⟩ = some (.int .i64 b2.i) ∧ w5.cell? ⟨bb, off + j * 11 + 6, none⟩ = some (.int .u64 b2.b) ∧ w5.cell? ⟨bb, off + j * 11 + 7, none⟩ = some (.string ⟨b2.t.toArray⟩) ∧ w5.cell? ⟨bb, off + j * 11 + 8, none⟩ = some (.slice bl2 bn2 bc2) ∧ w5.cell? ⟨bb, off + j * 11 + 9, none⟩ = some (.slice cl2 cn2 cc2) ∧ w5.cell? ⟨bb, off + j * 11 + 10, none⟩ = some (.slice a2 n2 cp2)) := ⟨cp _ _ HPLT.out.1 _ hSr.1, cp _ _ HQLT.out.1 _ hSr.2.1, cp _ _ HBB.out _ hSr.2.2.1, cp _ _ HBB.out _ hSr.2.2.2.1, cp _ _ HBB.out _ hSr.2.2.2.2.1, cp _ _ HBB.out _ hSr.2.2.2.2.2.1, cp _ _ HBB.out _ hSr.2.2.2.2.2.2.1, cp _ _ HBB.out _ hSr.2.2.2.2.2.2.2.1, cp _ _ HBB.out _ hSr.2.2.2.2.2.2.2.2.1, cp _ _ HBB.out _ hSr.2.2.2.2.2.2.2.2.2.1, cp _ _ HBB.out _ hSr.2.2.2.2.2.2.2.2.2.2.1, cp _ _ HBB.out _ hSr.2.2.2.2.2.2.2.2.2.2.2.1, cp _ _ HBB.out _ hSr.2.2.2.2.2.2.2.2.2.2.2.2⟩
      refine hK.out _ _ hS4 (fun hHeld2 => ?_)
      clear hK K hHeld hlp hkeep4 cp hQ4 hSr
      try simp only [Act.put, List.setIfInBounds_toArray, List.set_cons_zero, List.set_cons_succ]
      refine oneL (i := 10) (by kernel_rfl) rfl (fun K hK => ?_)
      go_simp
      refine hK.out _ _ hS4 (fun hHeld => ?_)
      clear hK K hHeld2
      try simp only [Act.put, List.setIfInBounds_toArray, List.set_cons_zero, List.set_cons_succ]
      have q10 := hS4.2.1
      refine lastL (i := 11) (by kernel_rfl) rfl (by kernel_rfl) (by kernel_rfl) (fun K hK => ?_)
      go_simp
      refine hK.out _ _ ?_
      clear hK K hHeld hS4
      go_wp2_with fail
      go_roundw
      case rel =>
        refine ⟨dn.app (.cons k2 i2 c2 t2 b2 cs2 ks .nil), r2, a4, c4, vs ++ V11 k2 i2 c2 t2 b2 blv bnv bcv clv cnv ccv lv nv cv, ?_, by rw [Eo.app_assoc]; exact HKK.out, ?_, ?_, ?_⟩
        · rw [Eo.len_app, HJJ.out]; simp [Eo.len]
        · have hl : (dn.app (.cons k2 i2 c2 t2 b2 cs2 ks .nil)).len = j + 1 := by rw [Eo.len_app, HJJ.out]; rfl
          rw [hl]
          refine ⟨HR4.out.put (p := ⟨q, 10, none⟩) (by show q < _; exact HQLT.out.1) _, ?_⟩
          refine EAt.same _ (ce_next HR.out.1 HR.out.2 HB3.out HEV.out HBV.out HG4.out HB4.out) (fun x hx hlt => ?_) (fun x hx _ => hx)
          exact (Kept.put (N := N1 q) (Kept.refl _ w5) (p := ⟨q, 10, none⟩) (.slice a4 (j + 1) c4) (fun _ => rfl)).block x hlt (by have := HQLT.out.1; unfold N1; omega)
        · have hl : (dn.app (.cons k2 i2 c2 t2 b2 cs2 ks .nil)).len = j + 1 := by rw [Eo.len_app, HJJ.out]; rfl
          rw [hl]
          simpa [V11] using HQ4.out.set (j := 10) (.slice a4 (j + 1) c4)
        · exact (kept_grow HK.out HBV.out HG4.out (fun x hx => (HR.out.1.lt x hx).1)).put (p := ⟨q, 10, none⟩) _ (fun _ => rfl)
      case measure => simp [intOf]; have := HJ.out; omega
theorem ecpAll : ∀ f : Eo, f.All CPEOK
  | .nil => trivial
  | .cons _ _ _ _ _ _ kids rest => ⟨ecopyN (ecpAll kids), ecpAll rest⟩
theorem ecopyG (kids : Eo) : CPEOK kids := ecopyN (ecpAll kids)
end Go.Proofs.YtbldidiibkcelaaGreatDoor

