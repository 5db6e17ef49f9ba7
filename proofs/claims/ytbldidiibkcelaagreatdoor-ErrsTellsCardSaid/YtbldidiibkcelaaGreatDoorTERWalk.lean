/-
  The document's Walk (walk). Not a statement of the seat.
-/
import Derived.Test.YtbldidiibkcelaaGreatDoorTEWays
namespace Go.Proofs.YtbldidiibkcelaaGreatDoor
open Go.RowKit

def RWOK (kids : Eo) : Prop := ∀ (k i c : Int) (t : Bs) (b : Dt) (cs : List Int) (bl : Option Addr) (bn bc : Nat) (cl : Option Addr) (cn cc : Nat) (l : Option Addr) (n cap : Nat) (S : Nat → Prop) (w : World), ErAt S w ⟨k, i, c, t, b, cs, kids⟩ bl bn bc cl cn cc l n cap → (∀ x, S x → x < w.heap.size) → esz kids ≤ 100000 → ehi kids ≤ 1000 →
  Calls Tryz.prog 21 #[vE k i c t b bl bn bc cl cn cc l n cap] w (WYP (ways1 k kids) w)
/-- between two rounds -/
def OwRel (kids : Eo) (w1 : World) (t15 t3 : Value) (wr : World) : Prop :=
  ∃ (dn rest : Eo) (a : Option Addr) (m c : Nat) (vs : List Value), t15 = .int .i64 (dn.len : Nat) ∧ t3 = .slice a m c ∧ kids = dn.app rest ∧ m = ([] :: waysL dn 0).length ∧ Row w1.heap.size wr 1 a m c vs ∧ WYs (fun x => w1.heap.size ≤ x ∧ blockOf a ≠ some x) wr ([] :: waysL dn 0) vs ∧ Below w1.heap.size w1 wr
def InRel (sub : List (List Int)) (j : Nat) (ws0 : List (List Int)) (w1 wq : World) (a0 : Option Addr) (t25 t3 : Value) (wr : World) : Prop :=
  ∃ (m : Nat) (a : Option Addr) (p c : Nat) (vs : List Value), t25 = .int .i64 (m : Nat) ∧ m ≤ sub.length ∧ t3 = .slice a p c ∧ p = (ws0 ++ (sub.take m).map (fun p => (j : Int) :: p)).length ∧ Row w1.heap.size wr 1 a p c vs ∧
    WYs (fun x => w1.heap.size ≤ x ∧ blockOf a ≠ some x) wr (ws0 ++ (sub.take m).map (fun p => (j : Int) :: p)) vs ∧ Kept (fun x => blockOf a0 = some x) wq wr ∧ (blockOf a = blockOf a0 ∨ ∀ x, blockOf a = some x → wq.heap.size ≤ x)
theorem Row.cellAt1 {B : Nat} {w : World} {a : Option Addr} {n c m : Nat} {xs : List Value} {v : Value} (h : Row B w 1 a n c xs) (hm : xs[m]? = some v) : ∃ b off, a = some ⟨b, off, none⟩ ∧ w.cell? ⟨b, off + m, none⟩ = some v ∧ B ≤ b ∧ b < w.heap.size := by
  obtain ⟨h1, h2, _, h4⟩ := h
  have hlt := (List.getElem?_eq_some_iff.1 hm).1
  rcases h4 with ⟨rfl, rfl⟩ | ⟨b, off, rfl, h5, h6, h7, _⟩
  · omega
  · exact ⟨b, off, rfl, (h7 m hlt).trans hm, h5, h6⟩
theorem row_new1 (w : World) (v : Value) (t : TypeId) : Row w.heap.size (w.alloc (.cells #[v] t)) 1 (some ⟨w.heap.size, 0, none⟩) 1 1 [v] := by
  have hb := Blk.new w #[v] t
  refine ⟨rfl, Nat.le_refl _, by unfold maxLen; omega, .inr ⟨_, _, rfl, Nat.le_refl _, by simp, fun j hj => ?_, fun j hj => ?_⟩⟩
  · obtain rfl : j = 0 := by simpa using hj
    exact hb.cell 0 rfl
  · obtain rfl : j = 0 := by omega
    exact ⟨by rw [hb.cell 0 rfl]; rfl, hb.free 0 (by simp)⟩
theorem I8_one (cs : List Int) : ∀ u ∈ I8 cs, u.oneCell' = true := fun u hu => by
  simp only [I8, List.mem_map] at hu
  obtain ⟨x, _, rfl⟩ := hu
  rfl
theorem way_rd {wr w5 : World} {ae : Option Addr} {ne ce : Nat} {pa : List Int} {ob : Obj} (h : Rd wr 1 ae ne ce (I8 pa)) (hg : (wr.alloc ob).grownBy w5 (blockOf none)) : Rd w5 1 ae ne ce (I8 pa) :=
  h.same0 (fun x _ _ hlt => by rw [hg.block x (by simp; omega) (fun e => by cases e), Below.heap_alloc _ _ _ hlt])
theorem way_bel {wr w5 w6 : World} {ob : Obj} {a5 : Option Addr} {n5 c5 : Nat} {xs : List Value} (hg : (wr.alloc ob).grownBy w5 (blockOf none)) (hr : Row wr.heap.size w5 1 a5 n5 c5 xs) (hg2 : w5.grownBy w6 (blockOf a5)) : Below wr.heap.size wr w6 :=
  Kept.below ((((Kept.refl (fun x => wr.heap.size ≤ x) wr).alloc _).grown hg (fun b h _ => by cases h)).grown hg2 (fun b h _ => (hr.lt b h).1)) (Nat.le_refl _) (fun b hb e => by omega)
theorem esz_app : ∀ (f g : Eo), esz (f.app g) = esz f + esz g
  | .nil, g => by simp [Eo.app, esz]
  | .cons k i c t b cs ks rest, g => by simp only [Eo.app, esz, esz_app rest g]; omega
set_option maxHeartbeats 16000000 in
set_option maxRecDepth 100000 in
theorem rwaysN {kids : Eo} (hall : kids.All RWOK) : RWOK kids := by
  intro k i c t b cs bl bn bc cl cn cc l n cap S w hE hS hz hh
  obtain ⟨i3, hi3, ha0, ha1, ha2⟩ := info_parts intInfo3
  obtain ⟨i4, hi4, hb0, hb1, hb2⟩ := info_parts sliceInfo49
  have hA := ebox_blk w k i c t b bl bn bc cl cn cc l n cap
  have hB := ebox_below w k i c t b bl bn bc cl cn cc l n cap
  have hs1 := ebox_size w k i c t b bl bn bc cl cn cc l n cap
  have hlen := hE.2.2.len
  have HF := Lib.hid (hE.2.2.same (w' := ebox w k i c t b bl bn bc cl cn cc l n cap) (fun x _ hlt => hB.block x hlt) (fun x hx _ => hx))
  have HS := Lib.hid hS
  have HALL := Lib.hid hall
  have HLEN := Lib.hid (show kids.len = n from hlen)
  have HZH := Lib.hid (And.intro hz hh)
  clear hE hS hall hlen hz hh
  unfold vE
  go_enter Tryz.func21, Tryz.ntmps21
  go_upto_region 1 with (fail)
  change Code.wp _ _ _ _ (ebox w k i c t b bl bn bc cl cn cc l n cap)
  generalize ebox w k i c t b bl bn bc cl cn cc l n cap = w1 at *
  obtain ⟨p, hp⟩ : ∃ x, x = w.heap.size := ⟨_, rfl⟩
  rw [← hp] at hA
  rw [← hp]
  have HA := Lib.hid hA
  have HB := Lib.hid hB
  have HP := Lib.hid (show w.heap.size ≤ p ∧ p < w1.heap.size ∧ w.heap.size ≤ w1.heap.size from by omega)
  have x0 := hA.cell 0 rfl
  have x10 := hA.cell 10 rfl
  clear hA hB hs1 hp
  by_cases hk0 : k = 0
  · subst hk0
    go_wp2_with fail
    go_ret
    exact ⟨none, 0, 0, [], rfl, rfl, Row.nil _ _ _, rfl, HB.out⟩
  have HW := Lib.hid (show ways1 k kids = [] :: waysL kids 0 from by unfold ways1; rw [if_neg hk0])
  go_upto_region 4 with (fail)
  have hw2 : Below w1.heap.size w1 (w1.alloc (.cells #[.slice none 0 0] 49)) := (Below.refl _ _).alloc (Nat.le_refl _) _
  have hr2 : Row w1.heap.size (w1.alloc (.cells #[.slice none 0 0] 49)) 1 (some ⟨w1.heap.size, 0, none⟩) 1 1 [.slice none 0 0] := row_new1 w1 _ 49
  have H0 := Lib.hid (show OwRel kids w1 (.int .i64 0) (.slice (some ⟨w1.heap.size, 0, none⟩) 1 1) (w1.alloc (.cells #[.slice none 0 0] 49)) from
    ⟨.nil, kids, some ⟨w1.heap.size, 0, none⟩, 1, 1, [.slice none 0 0], rfl, rfl, rfl, rfl, hr2, ⟨none, 0, 0, [], rfl, ⟨Rd.nil _ _, fun _ h => absurd h (by omega)⟩, rfl⟩, hw2⟩)
  replace x10 := cellAt hw2 x10
  generalize w1.alloc (.cells #[.slice none 0 0] 49) = w2 at *
  clear hw2 hr2 x0 hk0
  go_wp2_with fail
  clear x10
  go_loopw [15, 3] (fun t15 t3 wr => OwRel kids w1 t15 t3 wr) (fun t15 _ _ => n - (intOf t15).toNat)
  case atStart => exact H0.out
  case round =>
    obtain ⟨dn, rest, a, m, c0, vs, rfl, rfl, hk, hm, hRow, hWY, hBw⟩ := hrel
    obtain ⟨w0, rfl⟩ : ∃ x, x = wr := ⟨_, rfl⟩
    have hlen := HLEN.out
    rw [hk, Eo.len_app] at hlen
    cases rest with
    | nil =>
      have hj : ¬ (dn.len : Int) < (n : Int) := by have : Eo.len .nil = 0 := rfl; omega
      have hke : kids = dn := by rw [hk, Eo.app_nil]
      have HR := Lib.hid (show WYP (ways1 k kids) w (.returned (.slice a m c0)) w0 from by
        have hP := HP.out
        rw [HW.out, hke]
        exact ⟨a, m, c0, vs, rfl, hm, hRow.mono hP.2.2, WYs.same _ hWY (fun _ _ _ => rfl) (fun x hx _ => ⟨Nat.le_trans hP.2.2 hx.1, hx.2⟩), HB.out.trans (hBw.mono hP.2.2)⟩)
      clear hk hlen hke hRow hWY hBw hm H0
      go_wp2_with fail
      go_ret
      exact HR.out
    | cons k2 i2 c2 t2 b2 cs2 ks r2 =>
      have hlr : (Eo.cons k2 i2 c2 t2 b2 cs2 ks r2).len = r2.len + 1 := rfl
      have hF := HF.out.same (w' := w0) (fun x hx hlt => hBw.block x hlt) (fun x hx _ => hx)
      rw [hk] at hF
      obtain ⟨bb, off, bl2, bn2, bc2, cl2, cn2, cc2, a2, n2, cp2, rfl, hkF, he, hnb2, hjn⟩ := hF.elem
      have e0 := he 0 (by omega)
      have e1 := he 1 (by omega)
      have e2 := he 2 (by omega)
      have e3 := he 3 (by omega)
      have e4 := he 4 (by omega)
      have e5 := he 5 (by omega)
      have e6 := he 6 (by omega)
      have e7 := he 7 (by omega)
      have e8 := he 8 (by omega)
      have e9 := he 9 (by omega)
      have e10 := he 10 (by omega)
      simp only [V11, List.getElem?_cons_zero, List.getElem?_cons_succ, Nat.add_zero] at e0 e1 e2 e3 e4 e5 e6 e7 e8 e9 e10
      have hj : (dn.len : Int) < (n : Int) := by omega
      have hOK : RWOK ks := by
        have hal := HALL.out
        rw [hk] at hal
        exact (Eo.All.split dn hal).1
      have hz9 := HZH.out
      have hesz : 1 + esz ks ≤ 100000 ∧ ehi ks ≤ 1000 := by
        have h1 := esz_app dn (.cons k2 i2 c2 t2 b2 cs2 ks r2)
        have h2 := ehi_app dn (g := .cons k2 i2 c2 t2 b2 cs2 ks r2)
        rw [← hk] at h1 h2
        simp only [esz, ehi] at h1 h2
        omega
      have HC := Lib.hid (hOK k2 i2 c2 t2 b2 cs2 bl2 bn2 bc2 cl2 cn2 cc2 a2 n2 cp2 S w0 hkF (fun x hx2 => Nat.lt_of_lt_of_le (HS.out x hx2) (by have := HP.out; have := hBw.size; omega)) (by omega) hesz.2)
      unfold vE at HC
      have hwl : 1 + (waysL dn 0).length + (ways1 k2 ks).length ≤ 100001 := by
        have h1 := waysL_len kids 0
        rw [hk, waysL_app, waysL_cons] at h1
        rw [← hk] at h1
        simp only [List.length_append, List.length_map] at h1
        omega
      have hhi := ways1_hi k2 ks
      have HKK := Lib.hid hk
      have x10 := (HA.out.below hBw).cell 10 rfl
      have HWL := Lib.hid (And.intro hwl (And.intro hhi (And.intro hesz (And.intro hm (And.intro hRow (And.intro hWY hBw))))))
      have hwdef : (ways1 k2 ks) = (ways1 k2 ks) := rfl
      have HSUB : ∃ sub, sub = ways1 k2 ks := ⟨_, rfl⟩
      obtain ⟨sub, hsub⟩ := HSUB
      rw [← hsub] at HC HWL
      have HSB := Lib.hid hsub
      generalize hjj : dn.len = j at *
      have HJJ := Lib.hid hjj
      have HJ := Lib.hid hjn
      clear hkF hOK hk hlen hF hlr hz9 hesz hjj he hwl hhi hm hRow hWY hBw H0 hwdef hsub HZH
      go_wp2_with (go_at_call 21; (with_reducible refine HC.out.mono ?_); intro r5 wq h5; obtain ⟨aq, nq, cq, vq, rfl, hnq, hRq, hWq, hBq⟩ := h5; have HQ := Lib.hid (And.intro hnq (And.intro hRq (And.intro hWq hBq))); clear hnq hRq hWq hBq)
      go_loopw [25, 3] (fun t25 t3 wr => InRel sub j ([] :: waysL dn 0) w1 wq a t25 t3 wr) (fun t25 _ _ => nq - (intOf t25).toNat)
      case atStart =>
        obtain ⟨_, _, _, hm, hRow, hWY, hBw⟩ := HWL.out
        exact ⟨0, a, m, c0, vs, rfl, Nat.zero_le _, rfl, by simp [hm], hRow.below HQ.out.2.2.2, by simpa using WYs.same _ hWY (fun x _ hlt => HQ.out.2.2.2.block x hlt) (fun x hx _ => hx), Kept.refl _ _, .inl rfl⟩
      case round =>
        obtain ⟨mi, a', p', c', vs', rfl, hmi, rfl, hp', hR', hW', hK', hbl⟩ := hrel
        obtain ⟨hnq, hRq, hWq, hBq⟩ := HQ.out
        by_cases hme : mi = sub.length
        · have hmj : ¬ (mi : Int) < (nq : Int) := by omega
          have HEN := Lib.hid (show OwRel kids w1 (.int .i64 ((j : Int) + 1)) (.slice a' p' c') wr from by
            obtain ⟨_, _, _, _, hRow, _, hBw⟩ := HWL.out
            have hfl : waysL (dn.app (.cons k2 i2 c2 t2 b2 cs2 ks .nil)) 0 = waysL dn 0 ++ sub.map (fun p => (j : Int) :: p) := by
              rw [waysL_app, waysL_cons, HJJ.out, ← HSB.out]
              simp [waysL]
            have hta : [] :: waysL (dn.app (.cons k2 i2 c2 t2 b2 cs2 ks .nil)) 0 = ([] :: waysL dn 0) ++ (sub.take mi).map (fun p => (j : Int) :: p) := by
              rw [hfl, hme, List.take_length]; rfl
            refine ⟨dn.app (.cons k2 i2 c2 t2 b2 cs2 ks .nil), r2, a', p', c', vs', ?_, rfl, by rw [Eo.app_assoc]; exact HKK.out, ?_, hR', ?_, ?_⟩
            · rw [Eo.len_app, HJJ.out]; simp [Eo.len]
            · rw [hta]; exact hp'
            · rw [hta]; exact hW'
            · exact hBw.trans ((hBq.mono hBw.size).trans (hK'.below (Nat.le_trans hBw.size hBq.size) (fun x hx e => by have := (hRow.lt x e).1; omega))))
          clear hmi hp' hR' hW' hK' hbl hnq hRq hWq hBq hme
          have hjn := HJ.out
          go_wp2_with fail
          go_roundw
          case rel => exact HEN.out
          case measure => simp [intOf]; have := HJ.out; omega
        · have hml : mi < sub.length := by omega
          have hmj : (mi : Int) < (nq : Int) := by omega
          have hmx : ∃ pa, sub[mi]? = some pa := ⟨_, List.getElem?_eq_getElem hml⟩
          obtain ⟨pa, hpa⟩ := hmx
          obtain ⟨ae, ne, ce, hve, hRe, hSe⟩ := WYs.get sub hWq hpa
          obtain ⟨b2, off2, rfl, hcl, hb2g, hb2l⟩ := hRq.cellAt1 hve
          obtain ⟨hwl, hhi, _, _, hRow, _, hBw⟩ := HWL.out
          have halt : ∀ x, blockOf a = some x → w1.heap.size ≤ x ∧ x < w0.heap.size := hRow.lt
          have hcl2 := (World.cell?_of_block (a := ⟨b2, off2 + mi, none⟩) (hK'.block b2 hb2l (fun e => by have := (halt b2 e).2; omega))).trans hcl
          have hRe2 : Rd wr 1 ae ne ce (I8 pa) := hRe.same0 (fun x hn hx hlt => hK'.block x hlt (fun e => by have := (halt x e).2; have := (hSe x hn hx).1; omega))
          obtain rfl : ne = pa.length := by have h1 := hRe.1; rw [I8_length] at h1; omega
          have hpl : pa.length ≤ 1000 := Nat.le_trans (hhi pa (List.mem_of_getElem? hpa)) (by omega)
          have hp9 : p' ≤ 100001 := by
            rw [hp', List.length_append, List.length_map, List.length_take, List.length_cons]
            omega
          have hmi9 : mi ≤ 100001 := by omega
          have hwr1 : w1.heap.size ≤ wr.heap.size := Nat.le_trans hBw.size (Nat.le_trans hBq.size hK'.size)
          have HX := Lib.hid (And.intro hR' (And.intro hW' (And.intro hK' (And.intro hbl (And.intro hRe2 (And.intro hSe (And.intro halt (And.intro hpa (And.intro hp' (And.intro hmi (And.intro hnq hBq)))))))))))
          have hab : ∀ o, Below wr.heap.size wr (wr.alloc o) := fun o => (Below.refl _ _).alloc (Nat.le_refl _) _
          have HR1 := Lib.hid (show ∀ o, Row wr.heap.size (wr.alloc o) 1 none 0 0 [] from fun o => Row.nil _ _ _)
          have HS1 := Lib.hid (Src.oneAt (P := Tryz.prog) (w := wr) (tx := 49) Tryz.underlying49 (.int .i64 (j : Int)) 3 rfl (g := wr.heap.size) rfl)
          have hjn := HJ.out
          clear hmi hp' hR' hW' hK' hbl hnq hRq hWq hBq hme hml hve hRe hSe hcl hb2g hb2l hwl hhi hRow hBw halt hRe2 hpa
          go_wp2_with (first
            | (at_builtin; refine wpList_append_row rfl _ _ 49 49 rfl 3 i3 (.int .i64 0) 1 8 Tryz.underlying49 hi3 ha0 ha1 ha2 rfl rfl (HR1.out _) 1 _ HS1.out (by unfold maxLen; omega) (by omega) (by simp) ?_; intro a5 c5 w5 hrow hgr hbk; have HG5 := Lib.hid (And.intro hrow (And.intro hgr hbk)); have HR5 := Lib.hid hrow; have HS5 := Lib.hid (Src.ofRd (P := Tryz.prog) (w := w5) (tx := 49) Tryz.underlying49 (way_rd HX.out.2.2.2.2.1 hgr) (I8_one _)); have HZ5 := Lib.hid (show wr.heap.size ≤ w5.heap.size from Nat.le_trans (hab _).size hgr.size); clear hrow hgr hbk)
            | (at_builtin; refine wpList_append_row rfl _ _ 49 49 rfl 3 i3 (.int .i64 0) 1 8 Tryz.underlying49 hi3 ha0 ha1 ha2 rfl rfl HR5.out pa.length _ HS5.out (by unfold maxLen; omega) (by omega) HZ5.out ?_; intro a6 c6 w6 hrow hgr hbk; have HG6 := Lib.hid (And.intro hrow (And.intro hgr hbk)); have HB6 := Lib.hid (way_bel HG5.out.2.1 HG5.out.1 hgr); have HR6 := fun o => Lib.hid ((HX.out.1.below HB6.out).alloc o); have HS6 := Lib.hid (Src.oneAt (P := Tryz.prog) (w := w6) (tx := 40) Tryz.underlying40 (.slice a6 (1 + pa.length) c6) 49 rfl (g := w6.heap.size) rfl); have HZ6 := Lib.hid (Nat.le_trans hwr1 HB6.out.size); clear hrow hgr hbk)
            | (at_builtin; refine wpList_append_row rfl _ _ 40 40 rfl 49 i4 (.slice none 0 0) 1 24 Tryz.underlying40 hi4 hb0 hb1 hb2 rfl rfl (HR6 _).out 1 _ HS6.out (by unfold maxLen; omega) (by omega) (by have := HZ6.out; simp; omega) ?_; intro a7 c7 w7 hrow hgr hbk; have HG7 := Lib.hid (And.intro hrow (And.intro hgr hbk)); clear hrow hgr hbk))
          go_roundw
          case rel =>
            obtain ⟨hR', hW', hK', hbl, hRe2, hSe, halt, hpa, hp', hmi, hnq, hBq⟩ := HX.out
            have hmap : ([] :: waysL dn 0) ++ (sub.take (mi + 1)).map (fun p => (j : Int) :: p) = (([] :: waysL dn 0) ++ (sub.take mi).map (fun p => (j : Int) :: p)) ++ [(j : Int) :: pa] := by
              rw [List.take_add_one, hpa]; simp
            have hal : ∀ o, Below w6.heap.size w6 (w6.alloc o) := fun o => (Below.refl _ _).alloc (Nat.le_refl _) _
            have h6 : Rd w6 1 a6 (1 + pa.length) c6 (I8 ((j : Int) :: pa)) := HG6.out.1.rd
            have hmlt : mi < sub.length := (List.getElem?_eq_some_iff.1 hpa).1
            refine ⟨mi + 1, a7, p' + 1, c7, _, by simp, hmlt, rfl, ?_, HG7.out.1, ?_, ?_, ?_⟩
            · rw [hmap, List.length_append, ← hp']; rfl
            · rw [hmap]
              exact wy_next hR' hW' hwr1 h6 (fun x _ hx => (HG6.out.1.lt x hx).1) HB6.out HG7.out.2.1 HG7.out.2.2
            · refine ((hK'.calm HB6.out).alloc _).grown HG7.out.2.1 (fun b h hb => ?_)
              rcases hbl with h' | h'
              · exact h' ▸ h
              · exact absurd (h' b h) (by omega)
            · rcases HG7.out.2.2 with h | h
              · rw [h]; exact hbl
              · refine .inr (fun x hx => ?_)
                rw [h] at hx
                cases hx
                have h1 := HB6.out.size
                have h2 := hK'.size
                simp; omega
          case measure => simp [intOf]; omega
theorem rwAll : ∀ f : Eo, f.All RWOK
  | .nil => trivial
  | .cons _ _ _ _ _ _ kids rest => ⟨rwaysN (rwAll kids), rwAll rest⟩
theorem rwaysG (kids : Eo) : RWOK kids := rwaysN (rwAll kids)
end Go.Proofs.YtbldidiibkcelaaGreatDoor

