/-
  look (walk): an error's parts and what weighs. Not a statement of the seat.
-/
import Derived.Test.YtbldidiibkcelaaGreatDoorTEFields
namespace Go.Proofs.YtbldidiibkcelaaGreatDoor
open Go.RowKit

/-- a value's parts, as datum.Parts counts them -/
def sizeD (b : Dt) : Nat := (lookM b.fo 1 0 0).2.1
/-- what one error weighs -/
def wtE (k : Int) (b : Dt) (cs : List Int) : Nat := cs.length + (if k = 5 then sizeD b else 0)
/-- look over a row; many: what wraps them is of that kind -/
def elookM : Bool → Eo → Nat → Nat → Nat → Bool × Nat × Nat
  | _, .nil, _, p, wt => (true, p, wt)
  | many, .cons k i c t b cs kids rest, deep, p, wt =>
    if many = false ∧ k = 0 then (false, p, wt)
    else if 4096 < p + 1 ∨ 16 < deep ∨ fitsE k i c t b cs.length kids.len = false then (false, p + 1, wt)
    else
      match elookM (k == 4) kids (deep + 1) (p + 1) (wt + wtE k b cs) with
      | (true, p', w') => if w' ≤ 4096 then elookM many rest deep p' w' else (false, p', w')
      | (false, p', w') => (false, p', w')
/-- .. at one error -/
def elook1 (k i c : Int) (t : Bs) (b : Dt) (cs : List Int) (kids : Eo) (deep p wt : Nat) : Bool × Nat × Nat :=
  if 4096 < p + 1 ∨ 16 < deep ∨ fitsE k i c t b cs.length kids.len = false then (false, p + 1, wt)
  else
    match elookM (k == 4) kids (deep + 1) (p + 1) (wt + wtE k b cs) with
    | (true, p', w') => (decide (w' ≤ 4096), p', w')
    | (false, p', w') => (false, p', w')
theorem elookM_cons (many : Bool) (k i c : Int) (t : Bs) (b : Dt) (cs : List Int) (kids rest : Eo) (deep p wt : Nat) : elookM many (.cons k i c t b cs kids rest) deep p wt =
    if many = false ∧ k = 0 then (false, p, wt) else match elook1 k i c t b cs kids deep p wt with
      | (true, p', w') => elookM many rest deep p' w'
      | (false, p', w') => (false, p', w') := by
  rw [elookM]
  split
  · rfl
  · unfold elook1
    split
    · rfl
    · rcases elookM (k == 4) kids (deep + 1) (p + 1) (wt + wtE k b cs) with ⟨r, p', w'⟩
      cases r
      · rfl
      · by_cases hw : w' ≤ 4096
        · simp [hw]
        · simp [hw]
theorem elook1_le {k i c : Int} {t : Bs} {b : Dt} {cs : List Int} {kids : Eo} {deep p wt p' w' : Nat} (hp : ∀ (m : Bool) (d p w p' w' : Nat), p ≤ 4096 → elookM m kids d p w = (true, p', w') → p' ≤ 4096) (h : elook1 k i c t b cs kids deep p wt = (true, p', w')) : p' ≤ 4096 ∧ w' ≤ 4096 := by
  unfold elook1 at h
  split at h
  · cases h
  · rename_i hc
    rcases h1 : elookM (k == 4) kids (deep + 1) (p + 1) (wt + wtE k b cs) with ⟨r, p1, w1⟩
    rw [h1] at h
    cases r
    · cases h
    · simp only [Prod.mk.injEq, decide_eq_true_eq] at h
      obtain ⟨h2, rfl, rfl⟩ := h
      exact ⟨hp _ _ _ _ _ _ (by omega) h1, h2⟩
theorem elookM_le : ∀ (f : Eo) (m : Bool) (d p w p' w' : Nat), p ≤ 4096 → elookM m f d p w = (true, p', w') → p' ≤ 4096
  | .nil, m, d, p, w, p', w', hp, h => by rw [elookM] at h; cases h; exact hp
  | .cons k i c t b cs kids rest, m, d, p, w, p', w', hp, h => by
    rw [elookM_cons] at h
    split at h
    · cases h
    · rcases h1 : elook1 k i c t b cs kids d p w with ⟨r, p1, w1⟩
      rw [h1] at h
      cases r
      · cases h
      · exact elookM_le rest m d p1 w1 p' w' (elook1_le (fun m d p w p' w' => elookM_le kids m d p w p' w') h1).1 h
/-- no row of codes is longer than any machine bears -/
def Eo.small : Eo → Prop
  | .nil => True
  | .cons _ _ _ _ _ cs kids rest => cs.length ≤ 140737488355328 ∧ kids.small ∧ rest.small
theorem Eo.small_app : ∀ (f : Eo) {g : Eo}, (f.app g).small → g.small
  | .nil, _, h => h
  | .cons _ _ _ _ _ _ _ rest, _, h => Eo.small_app rest h.2.2
/-- look at an error with these parts -/
def ELOK (kids : Eo) : Prop := ∀ (k i c : Int) (t : Bs) (b : Dt) (cs : List Int) (bl : Option Addr) (bn bc : Nat) (cl : Option Addr) (cn cc : Nat) (l : Option Addr) (n cap : Nat) (S : Nat → Prop) (pb wb p wt deep : Nat) (w : World),
  ErAt S w ⟨k, i, c, t, b, cs, kids⟩ bl bn bc cl cn cc l n cap → (∀ x, S x → x < w.heap.size) → Blk w pb [.int .i64 (p : Nat)] → Blk w wb [.int .i64 (wt : Nat)] → pb ≠ wb → ¬ S pb → ¬ S wb → deep ≤ 17 → p ≤ 4096 → wt ≤ 4096 + deep * 281474976710656 → cs.length ≤ 140737488355328 → kids.small →
  Calls Tryz.prog 55 #[vE k i c t b bl bn bc cl cn cc l n cap, .int .i64 (deep : Nat), .pointer (some ⟨pb, 0, none⟩), .pointer (some ⟨wb, 0, none⟩)] w
    (LP pb wb w (elook1 k i c t b cs kids deep p wt))
/-- between two rounds -/
def ELRel (many : Bool) (kids : Eo) (vs : List Value) (pb wb deep : Nat) (w : World) (res : Bool × Nat × Nat) (t57 : Value) (wr : World) : Prop :=
  ∃ (dn rest : Eo) (p wt : Nat), t57 = .int .i64 (dn.len : Nat) ∧ kids = dn.app rest ∧ (Blk wr pb [.int .i64 (p : Nat)] ∧ Blk wr wb [.int .i64 (wt : Nat)]) ∧ Kept (N2 pb wb) w wr ∧ Blk wr w.heap.size vs ∧ p ≤ 4096 ∧ wt ≤ 4096 + deep * 281474976710656 ∧
    (match elookM many rest deep p wt with | (true, p', w') => (decide (w' ≤ 4096), p', w') | (false, p', w') => (false, p', w')) = res
theorem sizeD_le {b : Dt} (h : validD b = true) : sizeD b ≤ 4096 := by
  unfold validD at h
  unfold sizeD
  rcases hl : lookM b.fo 1 0 0 with ⟨r, p', m'⟩
  rw [hl] at h
  obtain rfl : r = true := h
  exact lookM_le _ _ _ _ _ _ (by omega) hl
theorem fits_body {i c : Int} {t : Bs} {b : Dt} {cn n : Nat} (h : fitsE 5 i c t b cn n = true) : validD b = true := by
  unfold fitsE at h
  simp only [Bool.and_eq_true] at h
  have h2 := h.2.2
  unfold fitC at h2
  have hb : (fldM 5).body = true := by decide
  rw [hb] at h2
  simpa using h2
set_option maxHeartbeats 8000000 in
set_option maxRecDepth 100000 in
theorem elookN {kids : Eo} (hall : kids.All ELOK) : ELOK kids := by
  intro k i c t b cs bl bn bc cl cn cc l n cap S pb wb p wt deep w hE hS hp hw hpw hSp hSw hd hp4 hwt hcs hks
  generalize hres : elook1 k i c t b cs kids deep p wt = res
  have hlen := hE.2.2.len
  have hcn : cs.length = cn := by have h : (I8 cs).length = cn * 1 := hE.2.1.1.1; rw [I8_length] at h; omega
  have hcm : cn ≤ 140737488355328 := by omega
  unfold elook1 at hres
  rw [hlen, hcn] at hres
  have hA := ebox_blk w k i c t b bl bn bc cl cn cc l n cap
  have hBA := ebox_below w k i c t b bl bn bc cl cn cc l n cap
  have hpl := hp.lt
  have hwl := hw.lt
  have hP := Blk.below hp hBA
  have hW := Blk.below hw hBA
  unfold vE
  go_enter Tryz.func55, Tryz.ntmps55
  go_upto_region 1 with (fail)
  change Code.wp _ _ _ _ (ebox w k i c t b bl bn bc cl cn cc l n cap)
  generalize ebox w k i c t b bl bn bc cl cn cc l n cap = w0 at *
  obtain ⟨p1, hp1⟩ : ∃ p1, p1 = p + 1 := ⟨_, rfl⟩
  rw [← hp1] at hres
  have hpi : (p : Int) + 1 = (p1 : Int) := by omega
  have HP1 := Lib.hid hp1
  clear hp1
  have cP := hP.cell 0 rfl
  have fP := hP.free 0 (by simp)
  have hK1 : Kept (N2 pb wb) w (w0.setCell ⟨pb, 0, none⟩ (.int .i64 (p1 : Nat))) := (Kept.of' hBA).put (N := N2 pb wb) (p := ⟨pb, 0, none⟩) _ (fun _ => .inl rfl)
  have H2 := Lib.hid (And.intro (set1 hP (.int .i64 (p1 : Nat))) (And.intro (hW.other (p := ⟨pb, 0, none⟩) (.int .i64 (p1 : Nat)) hpw) (And.intro hK1 (hA.other (p := ⟨pb, 0, none⟩) (.int .i64 (p1 : Nat)) (by show pb ≠ _; omega)))))
  have HE := Lib.hid hE
  have HS := Lib.hid hS
  clear hP hW hBA hA hK1 hp hw hE hS
  go_upto_region 2 with (fail)
  generalize w0.setCell ⟨pb, 0, none⟩ (.int .i64 (p1 : Nat)) = w1 at *
  have hA2 := H2.out.2.2.2
  have b0 := hA2.cell 0 rfl; have b1 := hA2.cell 1 rfl; have b2 := hA2.cell 2 rfl; have b3 := hA2.cell 3 rfl; have b4 := hA2.cell 4 rfl; have b5 := hA2.cell 5 rfl; have b6 := hA2.cell 6 rfl; have b7 := hA2.cell 7 rfl; have b8 := hA2.cell 8 rfl; have b9 := hA2.cell 9 rfl; have b10 := hA2.cell 10 rfl
  have d0 := H2.out.1.cell 0 rfl
  have hend : ∀ wx, Below w1.heap.size w1 wx → LP pb wb w (false, p1, wt) (.returned (.bool false)) wx := fun wx hb =>
    ⟨rfl, ⟨H2.out.1.below hb, H2.out.2.1.below hb⟩, H2.out.2.2.1.calm hb⟩
  clear hA2 cP fP hpi
  by_cases h1 : 4096 < p1
  · have h1i : (4096 : Int) < (p1 : Int) := by omega
    rw [if_pos (.inl h1)] at hres
    subst hres
    have HN := Lib.hid hend
    clear h1 hend
    go_wp2_with fail
    go_ret
    exact HN.out _ (Below.refl _ _)
  · have h1i : ¬ (4096 : Int) < (p1 : Int) := by omega
    by_cases h2 : 16 < deep
    · have h2i : (16 : Int) < (deep : Int) := by omega
      rw [if_pos (.inr (.inl h2))] at hres
      subst hres
      have HN := Lib.hid hend
      clear h1 h2 hend
      go_wp2_with fail
      go_ret
      exact HN.out _ (Below.refl _ _)
    · have h2i : ¬ (16 : Int) < (deep : Int) := by omega
      have hKw1 : ∀ x, S x → x < w.heap.size → w1.heap[x]? = w.heap[x]? := fun x hx hlt => H2.out.2.2.1.block x hlt (fun e => by rcases e with rfl | rfl; exact hSp hx; exact hSw hx)
      have hS1 : ∀ x, S x → x < w1.heap.size := fun x hx => Nat.lt_of_lt_of_le (HS.out x hx) H2.out.2.2.1.size
      have HFT := Lib.hid (efitsN (k := k) (i := i) (c := c) (t := t) (b := b) (cl := cl) (cn := cn) (cc := cc) (l := l) (n := n) (cap := cap) (HE.out.1.same hKw1 (fun _ hx _ => hx)) hS1)
      unfold vE at HFT
      cases hft : fitsE k i c t b cn n
      · rw [if_pos (.inr (.inr hft))] at hres
        subst hres
        have HN := Lib.hid hend
        rw [hft] at HFT
        clear h1 h2 hend
        go_wp2_with (go_at_call 86; (with_reducible refine HFT.out.mono ?_); rintro e w2 ⟨rfl, hB⟩)
        go_ret
        exact HN.out _ hB
      · rw [if_neg (by rw [hft]; simp; omega)] at hres
        rw [hft] at HFT
        clear hend
        go_upto_region 4 with (go_at_call 86; (with_reducible refine HFT.out.mono ?_); rintro e w2 ⟨rfl, hB⟩; have HB2 := Lib.hid hB; clear hB)
        have e0 := cellAt HB2.out b0; have e4 := cellAt HB2.out b4; have e5 := cellAt HB2.out b5; have e6 := cellAt HB2.out b6; have e7 := cellAt HB2.out b7; have e8 := cellAt HB2.out b8; have e9 := cellAt HB2.out b9; have e10 := cellAt HB2.out b10
        have hW2 := H2.out.2.1.below HB2.out
        have cW := hW2.cell 0 rfl
        have fW := hW2.free 0 (by simp)
        obtain ⟨w9, hw9⟩ : ∃ w9 : Nat, w9 = wt + cn := ⟨_, rfl⟩
        have hwi : (wt : Int) + (cn : Int) = (w9 : Int) := by omega
        have hw9b : w9 ≤ 4096 + deep * 281474976710656 + 140737488355328 := by omega
        have HW9 := Lib.hid hw9
        have HW2 := Lib.hid hW2
        clear hw9 hW2 b0 b1 b2 b3 b4 b5 b6 b7 b8 b9 b10 hcm
        go_region
        clear hwi
        have HXA := Lib.hid (show Blk ((w2.setCell ⟨wb, 0, none⟩ (.int .i64 (w9 : Nat))).drew) w.heap.size (V11 k i c t b bl bn bc cl cn cc l n cap) from ((H2.out.2.2.2.below HB2.out).other (p := ⟨wb, 0, none⟩) _ (by show wb ≠ _; omega)).below (Below.refl _ _).drew)
        have HPA := Lib.hid (show Blk ((w2.setCell ⟨wb, 0, none⟩ (.int .i64 (w9 : Nat))).drew) pb [.int .i64 (p1 : Nat)] from ((H2.out.1.below HB2.out).other (p := ⟨wb, 0, none⟩) _ (fun e => hpw e.symm)).below (Below.refl _ _).drew)
        have HWA := Lib.hid (show Blk ((w2.setCell ⟨wb, 0, none⟩ (.int .i64 (w9 : Nat))).drew) wb [.int .i64 (w9 : Nat)] from (set1 HW2.out _).below (Below.refl _ _).drew)
        have HKA := Lib.hid (show Kept (N2 pb wb) w ((w2.setCell ⟨wb, 0, none⟩ (.int .i64 (w9 : Nat))).drew) from (((H2.out.2.2.1.calm HB2.out).put (p := ⟨wb, 0, none⟩) _ (fun _ => .inr rfl))).drew)
        generalize (w2.setCell ⟨wb, 0, none⟩ (.int .i64 (w9 : Nat))).drew = wA at *
        clear e0 e4 e5 e6 e7 e8 e9 e10 cW fW HW2 HB2 H2
        have e0 := HXA.out.cell 0 rfl
        have HRES0 := Lib.hid hres
        clear hres
        by_cases hk5 : k = 5
        · have ek5 : (k == 5) = true := by simp [hk5]
          have HK5 := Lib.hid hk5
          have hbv : sizeD b ≤ 4096 := sizeD_le (fits_body (by rw [← hk5]; exact hft))
          have e4 := HXA.out.cell 4 rfl; have e5 := HXA.out.cell 5 rfl; have e6 := HXA.out.cell 6 rfl; have e7 := HXA.out.cell 7 rfl; have e8 := HXA.out.cell 8 rfl
          have hCP := partsN (d := b) (w := wA) (HE.out.1.same (fun x hx hlt => HKA.out.block x hlt (fun e => by rcases e with rfl | rfl; exact hSp hx; exact hSw hx)) (fun _ hx _ => hx)) (fun x hx => Nat.lt_of_lt_of_le (HS.out x hx) HKA.out.size)
          unfold CP at hCP
          change Calls Tryz.prog 87 _ wA (fun e w' => e = .returned (.tuple #[.int .i64 (sizeD b : Nat), .int .i64 ((lookM b.fo 1 0 0).2.2 : Nat)]) ∧ Below wA.heap.size wA w') at hCP
          generalize (lookM b.fo 1 0 0).2.2 = mm at *
          have HCP := Lib.hid hCP
          obtain ⟨sz, hsz⟩ : ∃ sz, sz = sizeD b := ⟨_, rfl⟩
          rw [← hsz] at HCP hbv
          have HSZ := Lib.hid hsz
          obtain ⟨w10, hw10⟩ : ∃ w10 : Nat, w10 = w9 + sz := ⟨_, rfl⟩
          have hw10b : w10 ≤ 4096 + deep * 281474976710656 + 140737488359424 := by omega
          have HW10a := Lib.hid hw10
          have hwi3 : (w9 : Int) + (sz : Int) = (w10 : Int) := by omega
          clear hw10 hk5 hCP hsz hw9b hft HFT
          go_upto_region 7 with (go_at_call 87; (with_reducible refine HCP.out.mono ?_); rintro e w5 ⟨rfl, hB5⟩; have HB5 := Lib.hid hB5; have cW5 := (HWA.out.below hB5).cell 0 rfl; have fW5 := (HWA.out.below hB5).free 0 (by simp); clear hB5)
          go_upto_region 8 with fail
          clear hwi3
          have HXT := Lib.hid (show Blk (w5.setCell ⟨wb, 0, none⟩ (.int .i64 (w10 : Nat))) w.heap.size (V11 k i c t b bl bn bc cl cn cc l n cap) from (HXA.out.below HB5.out).other (p := ⟨wb, 0, none⟩) _ (by show wb ≠ _; omega))
          have HPT := Lib.hid (show Blk (w5.setCell ⟨wb, 0, none⟩ (.int .i64 (w10 : Nat))) pb [.int .i64 (p1 : Nat)] from (HPA.out.below HB5.out).other (p := ⟨wb, 0, none⟩) _ (fun e => hpw e.symm))
          have HWT := Lib.hid (show Blk (w5.setCell ⟨wb, 0, none⟩ (.int .i64 (w10 : Nat))) wb [.int .i64 (w10 : Nat)] from set1 (HWA.out.below HB5.out) _)
          have HKT := Lib.hid (show Kept (N2 pb wb) w (w5.setCell ⟨wb, 0, none⟩ (.int .i64 (w10 : Nat))) from (HKA.out.calm HB5.out).put (p := ⟨wb, 0, none⟩) _ (fun _ => .inr rfl))
          generalize w5.setCell ⟨wb, 0, none⟩ (.int .i64 (w10 : Nat)) = wT at *
          have HW10 := Lib.hid (show w10 = wt + wtE k b cs by have h1 := HW10a.out; have h2 := HW9.out; unfold wtE; rw [if_pos HK5.out, ← HSZ.out]; omega)
          clear e0 e4 e5 e6 e7 e8 cW5 fW5 HCP HB5 HXA HPA HWA HKA
          have HRES := Lib.hid (show (match elookM (k == 4) kids (deep + 1) p1 w10 with | (true, p', w') => (decide (w' ≤ 4096), p', w') | (false, p', w') => (false, p', w')) = res by rw [HW10.out]; exact HRES0.out)
          obtain ⟨d1, hd1⟩ : ∃ d1, d1 = deep + 1 := ⟨_, rfl⟩
          rw [← hd1] at HRES
          have H0 := Lib.hid (show ELRel (k == 4) kids (V11 k i c t b bl bn bc cl cn cc l n cap) pb wb d1 w res (.int .i64 0) wT from ⟨.nil, kids, p1, w10, rfl, rfl, ⟨HPT.out, HWT.out⟩, HKT.out, HXT.out, by omega, by omega, HRES.out⟩)
          have hd17 : d1 ≤ 17 := by omega
          have hd1i : (deep : Int) + 1 = (d1 : Int) := by omega
          have HALL := Lib.hid hall
          have HLEN := Lib.hid hlen
          have HKS := Lib.hid hks
          have HND := Lib.hid (show (¬ S pb ∧ ¬ S wb) ∧ pb < w.heap.size ∧ wb < w.heap.size from ⟨⟨hSp, hSw⟩, hpl, hwl⟩)
          have g10 := HXT.out.cell 10 rfl
          clear HRES HRES0 hall hlen hks hSp hSw hpl hwl hd1 HPT HWT HXT HKT HW10 hw10b
          go_wp2_with fail
          go_loopw [57] (fun t57 wr => ELRel (k == 4) kids (V11 k i c t b bl bn bc cl cn cc l n cap) pb wb d1 w res t57 wr) (fun t57 _ => n - (intOf t57).toNat)
          case atStart => exact H0.out
          case round =>
            obtain ⟨dn, rest, p, wt, rfl, hk, ⟨hP, hW⟩, hK, hX, hp4, hwt, hl⟩ := hrel
            have hlen := HLEN.out
            rw [hk, Eo.len_app] at hlen
            have HK := Lib.hid hK
            have HP := Lib.hid hP
            have HW := Lib.hid hW
            have HX := Lib.hid hX
            have hFr : EoAt S wr kids l n cap := HE.out.2.2.same (fun x hx hlt => hK.block x hlt (fun e => by rcases e with rfl | rfl; exact HND.out.1.1 hx; exact HND.out.1.2 hx)) (fun x hx _ => hx)
            clear hK hP hW hX H0
            cases rest with
            | nil =>
              have hj : ¬ (dn.len : Int) < (n : Int) := by have : Eo.len .nil = 0 := rfl; omega
              rw [elookM] at hl
              have HR := Lib.hid hl
              have cW := HW.out.cell 0 rfl
              clear hl hk hlen hFr hwt
              go_wp2_with fail
              go_ret
              rw [← HR.out]
              exact ⟨by simp; omega, ⟨HP.out, HW.out⟩, HK.out⟩
            | cons k2 i2 c2 t2 b2 cs2 ks rest2 =>
              have hlr : (Eo.cons k2 i2 c2 t2 b2 cs2 ks rest2).len = rest2.len + 1 := rfl
              have hjn : dn.len < n := by omega
              have hj : (dn.len : Int) < (n : Int) := by omega
              rw [hk] at hFr
              obtain ⟨bb, off, bl2, bn2, bc2, cl2, cn2, cc2, l2, n2, cap2, rfl, hE2, hcell, hnb, _⟩ := hFr.elem
              have v0 := hcell 0 (by omega); have v1 := hcell 1 (by omega); have v2 := hcell 2 (by omega); have v3 := hcell 3 (by omega); have v4 := hcell 4 (by omega); have v5 := hcell 5 (by omega); have v6 := hcell 6 (by omega); have v7 := hcell 7 (by omega); have v8 := hcell 8 (by omega); have v9 := hcell 9 (by omega); have v10 := hcell 10 (by omega)
              simp only [V11, List.getElem?_cons_zero, List.getElem?_cons_succ, Nat.add_zero] at v0 v1 v2 v3 v4 v5 v6 v7 v8 v9 v10
              have hEL : ELOK ks := by
                have hal := HALL.out
                rw [hk] at hal
                exact (Eo.All.split dn hal).1
              have hsm := HKS.out
              rw [hk] at hsm
              have hsm2 := Eo.small_app dn hsm
              have HE2 := Lib.hid hE2
              have HEL := Lib.hid hEL
              have HKK := Lib.hid hk
              have HJ := Lib.hid hjn
              have HSM := Lib.hid (show cs2.length ≤ 140737488355328 ∧ ks.small from ⟨hsm2.1, hsm2.2.1⟩)
              clear hE2 hEL hk hcell hlen hlr hjn hsm hsm2 hFr
              rw [elookM_cons] at hl
              generalize hjj : dn.len = j at *
              have HJJ := Lib.hid hjj
              clear hjj
              have hx0 := HX.out.cell 0 rfl
              have hab : Below wr.heap.size wr (ebox wr k2 i2 c2 t2 b2 bl2 bn2 bc2 cl2 cn2 cc2 l2 n2 cap2) := ebox_below ..
              have HAB := Lib.hid hab
              have HXX := Lib.hid (HX.out.below hab)
              have hSr : ∀ x, S x → x < (ebox wr k2 i2 c2 t2 b2 bl2 bn2 bc2 cl2 cn2 cc2 l2 n2 cap2).heap.size := fun x hx => Nat.lt_of_lt_of_le (HS.out x hx) (Nat.le_trans HK.out.size hab.size)
              have hC := HEL.out k2 i2 c2 t2 b2 cs2 bl2 bn2 bc2 cl2 cn2 cc2 l2 n2 cap2 S pb wb p wt d1 (ebox wr k2 i2 c2 t2 b2 bl2 bn2 bc2 cl2 cn2 cc2 l2 n2 cap2)
                (HE2.out.same (fun x hx hlt => hab.block x hlt) (fun x hx _ => hx)) hSr (HP.out.below hab) (HW.out.below hab) hpw HND.out.1.1 HND.out.1.2 hd17 hp4 hwt HSM.out.1 HSM.out.2
              unfold vE at hC
              rcases hc : elook1 k2 i2 c2 t2 b2 cs2 ks d1 p wt with ⟨r, p', w'⟩
              rw [hc] at hC hl
              have HC := Lib.hid hC
              have HLE := Lib.hid (show r = true → p' ≤ 4096 ∧ w' ≤ 4096 from fun e => by subst e; exact elook1_le (fun m d p w p' w' => elookM_le ks m d p w p' w') hc)
              have HZ := Lib.hid (ebox_blk wr k2 i2 c2 t2 b2 bl2 bn2 bc2 cl2 cn2 cc2 l2 n2 cap2)
              clear hab hSr hC hc hwt hp4
              go_upto_region 11 with fail
              change Code.wp _ _ _ _ (ebox wr k2 i2 c2 t2 b2 bl2 bn2 bc2 cl2 cn2 cc2 l2 n2 cap2)
              generalize ebox wr k2 i2 c2 t2 b2 bl2 bn2 bc2 cl2 cn2 cc2 l2 n2 cap2 = y at *
              have x0 := HXX.out.cell 0 rfl
              have z0 := HZ.out.cell 0 rfl; have z1 := HZ.out.cell 1 rfl; have z2 := HZ.out.cell 2 rfl; have z3 := HZ.out.cell 3 rfl; have z4 := HZ.out.cell 4 rfl; have z5 := HZ.out.cell 5 rfl; have z6 := HZ.out.cell 6 rfl; have z7 := HZ.out.cell 7 rfl; have z8 := HZ.out.cell 8 rfl; have z9 := HZ.out.cell 9 rfl; have z10 := HZ.out.cell 10 rfl
              clear v0 v1 v2 v3 v4 v5 v6 v7 v8 v9 v10 hx0
              have key : (k == 4) = false ∧ k2 = 0 ∨ ¬ ((k == 4) = false ∧ k2 = 0) := Classical.em _
              rcases key with hz | hz
              · rw [if_pos hz] at hl
                have ek : (k != 4) = true := by have := hz.1; simpa using this
                have ek2 : (k2 == 0) = true := by simp [hz.2]
                have HR := Lib.hid hl
                have HP9 := Lib.hid (HP.out.below HAB.out)
                have HW9 := Lib.hid (HW.out.below HAB.out)
                clear hz hl
                go_wp2_with fail
                go_ret
                rw [← HR.out]
                exact ⟨rfl, ⟨HP9.out, HW9.out⟩, HK.out.calm HAB.out⟩
              · rw [if_neg hz] at hl
                have HR := Lib.hid hl
                clear hl
                cases hk4 : (k == 4)
                · have ek : (k != 4) = true := by simpa using hk4
                  have ek2 : (k2 == 0) = false := by simpa using fun e => hz ⟨hk4, e⟩
                  clear hz hk4
                  cases r
                  · go_wp2_with (go_at_call 55; (with_reducible refine HC.out.mono ?_); rintro e w4 ⟨rfl, ⟨hP4, hW4⟩, hK4⟩)
                    go_ret
                    rw [← HR.out]
                    exact ⟨rfl, ⟨hP4, hW4⟩, (HK.out.calm HAB.out).trans hK4⟩
                  · have HLE2 := Lib.hid (HLE.out rfl)
                    go_wp2_with (go_at_call 55; (with_reducible refine HC.out.mono ?_); rintro e w4 ⟨rfl, ⟨hP4, hW4⟩, hK4⟩)
                    go_roundw
                    case rel =>
                      refine ⟨dn.app (.cons k2 i2 c2 t2 b2 cs2 ks .nil), rest2, p', w', ?_, ?_, ⟨hP4, hW4⟩, (HK.out.calm HAB.out).trans hK4, HXX.out.keep hK4 (fun e => by rcases e with e | e <;> (have := HND.out.2; omega)), HLE2.out.1, by have := HLE2.out.2; omega, HR.out⟩
                      · rw [Eo.len_app, HJJ.out, show (Eo.cons k2 i2 c2 t2 b2 cs2 ks .nil).len = 1 from rfl]; go_num
                      · rw [Eo.app_assoc]; exact HKK.out
                    case measure => simp [intOf]; have := HJ.out; omega
                · have ek : (k != 4) = false := by simpa using hk4
                  clear hz hk4
                  cases r
                  · go_wp2_with (go_at_call 55; (with_reducible refine HC.out.mono ?_); rintro e w4 ⟨rfl, ⟨hP4, hW4⟩, hK4⟩)
                    go_ret
                    rw [← HR.out]
                    exact ⟨rfl, ⟨hP4, hW4⟩, (HK.out.calm HAB.out).trans hK4⟩
                  · have HLE2 := Lib.hid (HLE.out rfl)
                    go_wp2_with (go_at_call 55; (with_reducible refine HC.out.mono ?_); rintro e w4 ⟨rfl, ⟨hP4, hW4⟩, hK4⟩)
                    go_roundw
                    case rel =>
                      refine ⟨dn.app (.cons k2 i2 c2 t2 b2 cs2 ks .nil), rest2, p', w', ?_, ?_, ⟨hP4, hW4⟩, (HK.out.calm HAB.out).trans hK4, HXX.out.keep hK4 (fun e => by rcases e with e | e <;> (have := HND.out.2; omega)), HLE2.out.1, by have := HLE2.out.2; omega, HR.out⟩
                      · rw [Eo.len_app, HJJ.out, show (Eo.cons k2 i2 c2 t2 b2 cs2 ks .nil).len = 1 from rfl]; go_num
                      · rw [Eo.app_assoc]; exact HKK.out
                    case measure => simp [intOf]; have := HJ.out; omega
        · have ek5 : (k == 5) = false := by simpa using hk5
          have HK5 := Lib.hid hk5
          clear hk5 hft HFT
          go_upto_region 8 with fail
          obtain ⟨w10, hw10⟩ : ∃ w10 : Nat, w10 = w9 := ⟨_, rfl⟩
          have hw10b : w10 ≤ 4096 + deep * 281474976710656 + 140737488359424 := by omega
          have HW10 := Lib.hid (show w10 = wt + wtE k b cs by have h2 := HW9.out; unfold wtE; rw [if_neg HK5.out]; omega)
          rw [← hw10] at HWA
          clear hw10 hw9b e0
          have HXT := HXA; have HPT := HPA; have HWT := HWA; have HKT := HKA
          clear HXA HPA HWA HKA
          have HRES := Lib.hid (show (match elookM (k == 4) kids (deep + 1) p1 w10 with | (true, p', w') => (decide (w' ≤ 4096), p', w') | (false, p', w') => (false, p', w')) = res by rw [HW10.out]; exact HRES0.out)
          obtain ⟨d1, hd1⟩ : ∃ d1, d1 = deep + 1 := ⟨_, rfl⟩
          rw [← hd1] at HRES
          have H0 := Lib.hid (show ELRel (k == 4) kids (V11 k i c t b bl bn bc cl cn cc l n cap) pb wb d1 w res (.int .i64 0) wA from ⟨.nil, kids, p1, w10, rfl, rfl, ⟨HPT.out, HWT.out⟩, HKT.out, HXT.out, by omega, by omega, HRES.out⟩)
          have hd17 : d1 ≤ 17 := by omega
          have hd1i : (deep : Int) + 1 = (d1 : Int) := by omega
          have HALL := Lib.hid hall
          have HLEN := Lib.hid hlen
          have HKS := Lib.hid hks
          have HND := Lib.hid (show (¬ S pb ∧ ¬ S wb) ∧ pb < w.heap.size ∧ wb < w.heap.size from ⟨⟨hSp, hSw⟩, hpl, hwl⟩)
          have g10 := HXT.out.cell 10 rfl
          clear HRES HRES0 hall hlen hks hSp hSw hpl hwl hd1 HPT HWT HXT HKT HW10 hw10b
          go_wp2_with fail
          go_loopw [57] (fun t57 wr => ELRel (k == 4) kids (V11 k i c t b bl bn bc cl cn cc l n cap) pb wb d1 w res t57 wr) (fun t57 _ => n - (intOf t57).toNat)
          case atStart => exact H0.out
          case round =>
            obtain ⟨dn, rest, p, wt, rfl, hk, ⟨hP, hW⟩, hK, hX, hp4, hwt, hl⟩ := hrel
            have hlen := HLEN.out
            rw [hk, Eo.len_app] at hlen
            have HK := Lib.hid hK
            have HP := Lib.hid hP
            have HW := Lib.hid hW
            have HX := Lib.hid hX
            have hFr : EoAt S wr kids l n cap := HE.out.2.2.same (fun x hx hlt => hK.block x hlt (fun e => by rcases e with rfl | rfl; exact HND.out.1.1 hx; exact HND.out.1.2 hx)) (fun x hx _ => hx)
            clear hK hP hW hX H0
            cases rest with
            | nil =>
              have hj : ¬ (dn.len : Int) < (n : Int) := by have : Eo.len .nil = 0 := rfl; omega
              rw [elookM] at hl
              have HR := Lib.hid hl
              have cW := HW.out.cell 0 rfl
              clear hl hk hlen hFr hwt
              go_wp2_with fail
              go_ret
              rw [← HR.out]
              exact ⟨by simp; omega, ⟨HP.out, HW.out⟩, HK.out⟩
            | cons k2 i2 c2 t2 b2 cs2 ks rest2 =>
              have hlr : (Eo.cons k2 i2 c2 t2 b2 cs2 ks rest2).len = rest2.len + 1 := rfl
              have hjn : dn.len < n := by omega
              have hj : (dn.len : Int) < (n : Int) := by omega
              rw [hk] at hFr
              obtain ⟨bb, off, bl2, bn2, bc2, cl2, cn2, cc2, l2, n2, cap2, rfl, hE2, hcell, hnb, _⟩ := hFr.elem
              have v0 := hcell 0 (by omega); have v1 := hcell 1 (by omega); have v2 := hcell 2 (by omega); have v3 := hcell 3 (by omega); have v4 := hcell 4 (by omega); have v5 := hcell 5 (by omega); have v6 := hcell 6 (by omega); have v7 := hcell 7 (by omega); have v8 := hcell 8 (by omega); have v9 := hcell 9 (by omega); have v10 := hcell 10 (by omega)
              simp only [V11, List.getElem?_cons_zero, List.getElem?_cons_succ, Nat.add_zero] at v0 v1 v2 v3 v4 v5 v6 v7 v8 v9 v10
              have hEL : ELOK ks := by
                have hal := HALL.out
                rw [hk] at hal
                exact (Eo.All.split dn hal).1
              have hsm := HKS.out
              rw [hk] at hsm
              have hsm2 := Eo.small_app dn hsm
              have HE2 := Lib.hid hE2
              have HEL := Lib.hid hEL
              have HKK := Lib.hid hk
              have HJ := Lib.hid hjn
              have HSM := Lib.hid (show cs2.length ≤ 140737488355328 ∧ ks.small from ⟨hsm2.1, hsm2.2.1⟩)
              clear hE2 hEL hk hcell hlen hlr hjn hsm hsm2 hFr
              rw [elookM_cons] at hl
              generalize hjj : dn.len = j at *
              have HJJ := Lib.hid hjj
              clear hjj
              have hx0 := HX.out.cell 0 rfl
              have hab : Below wr.heap.size wr (ebox wr k2 i2 c2 t2 b2 bl2 bn2 bc2 cl2 cn2 cc2 l2 n2 cap2) := ebox_below ..
              have HAB := Lib.hid hab
              have HXX := Lib.hid (HX.out.below hab)
              have hSr : ∀ x, S x → x < (ebox wr k2 i2 c2 t2 b2 bl2 bn2 bc2 cl2 cn2 cc2 l2 n2 cap2).heap.size := fun x hx => Nat.lt_of_lt_of_le (HS.out x hx) (Nat.le_trans HK.out.size hab.size)
              have hC := HEL.out k2 i2 c2 t2 b2 cs2 bl2 bn2 bc2 cl2 cn2 cc2 l2 n2 cap2 S pb wb p wt d1 (ebox wr k2 i2 c2 t2 b2 bl2 bn2 bc2 cl2 cn2 cc2 l2 n2 cap2)
                (HE2.out.same (fun x hx hlt => hab.block x hlt) (fun x hx _ => hx)) hSr (HP.out.below hab) (HW.out.below hab) hpw HND.out.1.1 HND.out.1.2 hd17 hp4 hwt HSM.out.1 HSM.out.2
              unfold vE at hC
              rcases hc : elook1 k2 i2 c2 t2 b2 cs2 ks d1 p wt with ⟨r, p', w'⟩
              rw [hc] at hC hl
              have HC := Lib.hid hC
              have HLE := Lib.hid (show r = true → p' ≤ 4096 ∧ w' ≤ 4096 from fun e => by subst e; exact elook1_le (fun m d p w p' w' => elookM_le ks m d p w p' w') hc)
              have HZ := Lib.hid (ebox_blk wr k2 i2 c2 t2 b2 bl2 bn2 bc2 cl2 cn2 cc2 l2 n2 cap2)
              clear hab hSr hC hc hwt hp4
              go_upto_region 11 with fail
              change Code.wp _ _ _ _ (ebox wr k2 i2 c2 t2 b2 bl2 bn2 bc2 cl2 cn2 cc2 l2 n2 cap2)
              generalize ebox wr k2 i2 c2 t2 b2 bl2 bn2 bc2 cl2 cn2 cc2 l2 n2 cap2 = y at *
              have x0 := HXX.out.cell 0 rfl
              have z0 := HZ.out.cell 0 rfl; have z1 := HZ.out.cell 1 rfl; have z2 := HZ.out.cell 2 rfl; have z3 := HZ.out.cell 3 rfl; have z4 := HZ.out.cell 4 rfl; have z5 := HZ.out.cell 5 rfl; have z6 := HZ.out.cell 6 rfl; have z7 := HZ.out.cell 7 rfl; have z8 := HZ.out.cell 8 rfl; have z9 := HZ.out.cell 9 rfl; have z10 := HZ.out.cell 10 rfl
              clear v0 v1 v2 v3 v4 v5 v6 v7 v8 v9 v10 hx0
              have key : (k == 4) = false ∧ k2 = 0 ∨ ¬ ((k == 4) = false ∧ k2 = 0) := Classical.em _
              rcases key with hz | hz
              · rw [if_pos hz] at hl
                have ek : (k != 4) = true := by have := hz.1; simpa using this
                have ek2 : (k2 == 0) = true := by simp [hz.2]
                have HR := Lib.hid hl
                have HP9 := Lib.hid (HP.out.below HAB.out)
                have HW9 := Lib.hid (HW.out.below HAB.out)
                clear hz hl
                go_wp2_with fail
                go_ret
                rw [← HR.out]
                exact ⟨rfl, ⟨HP9.out, HW9.out⟩, HK.out.calm HAB.out⟩
              · rw [if_neg hz] at hl
                have HR := Lib.hid hl
                clear hl
                cases hk4 : (k == 4)
                · have ek : (k != 4) = true := by simpa using hk4
                  have ek2 : (k2 == 0) = false := by simpa using fun e => hz ⟨hk4, e⟩
                  clear hz hk4
                  cases r
                  · go_wp2_with (go_at_call 55; (with_reducible refine HC.out.mono ?_); rintro e w4 ⟨rfl, ⟨hP4, hW4⟩, hK4⟩)
                    go_ret
                    rw [← HR.out]
                    exact ⟨rfl, ⟨hP4, hW4⟩, (HK.out.calm HAB.out).trans hK4⟩
                  · have HLE2 := Lib.hid (HLE.out rfl)
                    go_wp2_with (go_at_call 55; (with_reducible refine HC.out.mono ?_); rintro e w4 ⟨rfl, ⟨hP4, hW4⟩, hK4⟩)
                    go_roundw
                    case rel =>
                      refine ⟨dn.app (.cons k2 i2 c2 t2 b2 cs2 ks .nil), rest2, p', w', ?_, ?_, ⟨hP4, hW4⟩, (HK.out.calm HAB.out).trans hK4, HXX.out.keep hK4 (fun e => by rcases e with e | e <;> (have := HND.out.2; omega)), HLE2.out.1, by have := HLE2.out.2; omega, HR.out⟩
                      · rw [Eo.len_app, HJJ.out, show (Eo.cons k2 i2 c2 t2 b2 cs2 ks .nil).len = 1 from rfl]; go_num
                      · rw [Eo.app_assoc]; exact HKK.out
                    case measure => simp [intOf]; have := HJ.out; omega
                · have ek : (k != 4) = false := by simpa using hk4
                  clear hz hk4
                  cases r
                  · go_wp2_with (go_at_call 55; (with_reducible refine HC.out.mono ?_); rintro e w4 ⟨rfl, ⟨hP4, hW4⟩, hK4⟩)
                    go_ret
                    rw [← HR.out]
                    exact ⟨rfl, ⟨hP4, hW4⟩, (HK.out.calm HAB.out).trans hK4⟩
                  · have HLE2 := Lib.hid (HLE.out rfl)
                    go_wp2_with (go_at_call 55; (with_reducible refine HC.out.mono ?_); rintro e w4 ⟨rfl, ⟨hP4, hW4⟩, hK4⟩)
                    go_roundw
                    case rel =>
                      refine ⟨dn.app (.cons k2 i2 c2 t2 b2 cs2 ks .nil), rest2, p', w', ?_, ?_, ⟨hP4, hW4⟩, (HK.out.calm HAB.out).trans hK4, HXX.out.keep hK4 (fun e => by rcases e with e | e <;> (have := HND.out.2; omega)), HLE2.out.1, by have := HLE2.out.2; omega, HR.out⟩
                      · rw [Eo.len_app, HJJ.out, show (Eo.cons k2 i2 c2 t2 b2 cs2 ks .nil).len = 1 from rfl]; go_num
                      · rw [Eo.app_assoc]; exact HKK.out
                    case measure => simp [intOf]; have := HJ.out; omega
theorem elookAll : ∀ f : Eo, f.All ELOK
  | .nil => trivial
  | .cons _ _ _ _ _ _ kids rest => ⟨elookN (elookAll kids), elookAll rest⟩
theorem elookG (kids : Eo) : ELOK kids := elookN (elookAll kids)
end Go.Proofs.YtbldidiibkcelaaGreatDoor

/-
  Valid of an error (walk). Not a statement of the seat.
-/
namespace Go.Proofs.YtbldidiibkcelaaGreatDoor
open Go.RowKit

/-- the world behind Valid's boxes -/
def evw (w : World) (k i c : Int) (t : Bs) (b : Dt) (bl : Option Addr) (bn bc : Nat) (cl : Option Addr) (cn cc : Nat) (l : Option Addr) (n cap : Nat) : World :=
  ((ebox w k i c t b bl bn bc cl cn cc l n cap).alloc (.cells #[.int .i64 0] 3)).alloc (.cells #[.int .i64 0] 3)
theorem evw_facts (w : World) (k i c : Int) (t : Bs) (b : Dt) (bl : Option Addr) (bn bc : Nat) (cl : Option Addr) (cn cc : Nat) (l : Option Addr) (n cap : Nat) :
    Blk (evw w k i c t b bl bn bc cl cn cc l n cap) w.heap.size (V11 k i c t b bl bn bc cl cn cc l n cap) ∧ Blk (evw w k i c t b bl bn bc cl cn cc l n cap) (w.heap.size + 1) [.int .i64 ((0 : Nat) : Int)] ∧
      Blk (evw w k i c t b bl bn bc cl cn cc l n cap) (w.heap.size + 1 + 1) [.int .i64 ((0 : Nat) : Int)] ∧ Below w.heap.size w (evw w k i c t b bl bn bc cl cn cc l n cap) := by
  have hs : (ebox w k i c t b bl bn bc cl cn cc l n cap).heap.size = w.heap.size + 1 := by simp [ebox]
  have hb := ebox_below w k i c t b bl bn bc cl cn cc l n cap
  refine ⟨((ebox_blk w k i c t b bl bn bc cl cn cc l n cap).alloc _).alloc _, ?_, ?_, (hb.alloc hb.size _).alloc (by simp [hs]; omega) _⟩
  · have := (Blk.new (ebox w k i c t b bl bn bc cl cn cc l n cap) #[.int .i64 0] 3).alloc (.cells #[.int .i64 0] 3)
    rw [hs] at this
    simpa [evw] using this
  · have := Blk.new ((ebox w k i c t b bl bn bc cl cn cc l n cap).alloc (.cells #[.int .i64 0] 3)) #[.int .i64 0] 3
    rw [show ((ebox w k i c t b bl bn bc cl cn cc l n cap).alloc (.cells #[.int .i64 0] 3)).heap.size = w.heap.size + 1 + 1 by simp [hs]] at this
    simpa [evw] using this
def evalidM (e : Et) : Bool := (elook1 e.k e.i e.c e.t e.b e.cs e.l 1 0 0).1
set_option maxRecDepth 100000 in
theorem evalidN {S : Nat → Prop} {k i c : Int} {t : Bs} {b : Dt} {cs : List Int} {kids : Eo} {bl : Option Addr} {bn bc : Nat} {cl : Option Addr} {cn cc : Nat} {l : Option Addr} {n cap : Nat} {w : World} (hE : ErAt S w ⟨k, i, c, t, b, cs, kids⟩ bl bn bc cl cn cc l n cap)
    (hS : ∀ x, S x → x < w.heap.size) (hcs : cs.length ≤ 140737488355328) (hks : kids.small) :
    Calls Tryz.prog 18 #[vE k i c t b bl bn bc cl cn cc l n cap] w (fun r w' => r = .returned (.bool (evalidM ⟨k, i, c, t, b, cs, kids⟩)) ∧ Below w.heap.size w w') := by
  have HW := Lib.hid (evw_facts w k i c t b bl bn bc cl cn cc l n cap)
  have hC := elookG kids k i c t b cs bl bn bc cl cn cc l n cap S (w.heap.size + 1) (w.heap.size + 1 + 1) 0 0 1 (evw w k i c t b bl bn bc cl cn cc l n cap)
    (hE.same (fun x _ hlt => HW.out.2.2.2.block x hlt) (fun x hx _ => hx)) (fun x hx => Nat.lt_of_lt_of_le (hS x hx) HW.out.2.2.2.size) HW.out.2.1 HW.out.2.2.1 (by omega) (fun hx => by have := hS _ hx; omega) (fun hx => by have := hS _ hx; omega) (by omega) (by omega) (by omega) hcs hks
  unfold vE at hC ⊢
  have HC := Lib.hid hC
  clear hC hE hS hcs hks
  go_enter Tryz.func18, Tryz.ntmps18
  go_upto_region 2 with (fail)
  change Code.wp _ _ _ _ (evw w k i c t b bl bn bc cl cn cc l n cap)
  generalize evw w k i c t b bl bn bc cl cn cc l n cap = w1 at *
  have hx := HW.out.1
  have x0 := hx.cell 0 rfl; have x1 := hx.cell 1 rfl; have x2 := hx.cell 2 rfl; have x3 := hx.cell 3 rfl; have x4 := hx.cell 4 rfl; have x5 := hx.cell 5 rfl; have x6 := hx.cell 6 rfl; have x7 := hx.cell 7 rfl; have x8 := hx.cell 8 rfl; have x9 := hx.cell 9 rfl; have x10 := hx.cell 10 rfl
  clear hx
  go_wp2_with (go_at_call 55; refine HC.out.mono ?_; rintro e w4 ⟨rfl, hP4, hK4⟩)
  go_ret
  exact ⟨rfl, ((Kept.of' HW.out.2.2.2).trans (hK4.mono (fun _ _ h => h))).below (Nat.le_refl _) (fun x hx e => by rcases e with e | e <;> omega)⟩
end Go.Proofs.YtbldidiibkcelaaGreatDoor

