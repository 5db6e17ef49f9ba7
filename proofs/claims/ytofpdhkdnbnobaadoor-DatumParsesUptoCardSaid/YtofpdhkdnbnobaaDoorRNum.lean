/-
  The document's reader: number (walk). Not a statement of the seat.
-/
import Derived.Test.YtofpdhkdnbnobaaDoorRQuotP
import Derived.Test.YtofpdhkdnbnobaaDoorRNumP
import Derived.Test.YtofpdhkdnbnobaaDoorRPrint
namespace Go.Proofs.YtofpdhkdnbnobaaDoor
open Go.RowKit

theorem dig_fin : ∀ n : Fin 256, (0 ≤ Go.Lib.indexByte decD (UInt8.ofNat n.val)) ↔ (48 ≤ n.val ∧ n.val ≤ 57) := by decide +kernel
theorem dig_iff (c : UInt8) : (0 ≤ Go.Lib.indexByte decD c) ↔ (48 ≤ c.toNat ∧ c.toNat ≤ 57) := by
  have h := dig_fin ⟨c.toNat, c.toNat_lt⟩
  simp only [UInt8.ofNat_toNat] at h
  exact h
theorem runM_dig : ∀ (l : Bs) (r : Bs), l.take (runM decD l) ≠ 45 :: r
  | [], r, h => by simp at h
  | c :: l, r, h => by
    rw [runM] at h
    split at h
    · rename_i hc
      rw [List.take_succ_cons] at h
      injection h with h1 h2
      subst h1
      rw [dig_iff] at hc
      exact absurd hc (by decide)
    · simp at h
theorem digsM_no (L : Bs) (a : Nat) : ∀ r, digsM L a ≠ 45 :: r := runM_dig _
/-- one digit more -/
theorem while_at {L : Bs} {i : Nat} : (48 ≤ (nx L i).toNat ∧ (nx L i).toNat ≤ 57) ↔ 0 < whileM L i decD := by
  by_cases h : i < L.length
  · rw [whileM_step h]
    have hn : nx L i = L[i] := by unfold nx; simp [List.getD, h]
    rw [hn, ← dig_iff]
    by_cases h2 : 0 ≤ Go.Lib.indexByte decD L[i]
    · rw [if_pos h2]; exact ⟨fun _ => by omega, fun _ => h2⟩
    · rw [if_neg h2]; exact ⟨fun h => absurd h h2, fun h => by omega⟩
  · rw [whileM_end (by omega)]
    have hn : nx L i = 0 := by unfold nx; simp [List.getD, List.getElem?_eq_none (by omega : L.length ≤ i)]
    rw [hn]
    constructor
    · intro h2; exact absurd h2 (by decide)
    · intro h2; omega
theorem while_next {L : Bs} {i : Nat} (h : 0 < whileM L i decD) : i < L.length ∧ whileM L i decD = whileM L (i + 1) decD + 1 := by
  have hi : i < L.length := by
    rcases Nat.lt_or_ge i L.length with h1 | h1
    · exact h1
    · rw [whileM_end h1] at h; omega
  refine ⟨hi, ?_⟩
  rw [whileM_step hi] at h ⊢
  split at h
  · rename_i h2; rw [if_pos h2]
  · omega
theorem take_next {L : Bs} {i k : Nat} (h : i + k < L.length) : (L.drop i).take (k + 1) = (L.drop i).take k ++ [nx L (i + k)] := by
  have : nx L (i + k) = (L.drop i)[k]'(by simp; omega) := by
    unfold nx
    simp [List.getD, h]
  rw [this, List.take_succ_eq_append_getElem]
theorem hasM_nx {L : Bs} {a : Nat} {b : UInt8} (hb : b ≠ 0) : hasM L a [b] = decide (nx L a = b) := by
  unfold hasM nx
  rw [Bool.eq_iff_iff, decide_eq_true_eq]
  by_cases hl : a < L.length
  · rw [drop_at hl]
    simp only [List.isPrefixOf, Bool.and_true, beq_iff_eq, List.getD, List.getElem?_eq_getElem hl, Option.getD_some]
    exact ⟨fun h => h.symm, fun h => h.symm⟩
  · rw [List.drop_eq_nil_of_le (by omega)]
    simp [List.getD, List.getElem?_eq_none (by omega : L.length ≤ a)]
    exact fun h => hb h.symm
theorem numText_slice (L : Bs) (a : Nat) : numText L a = (L.drop a).take (digM L a + whileM L (digM L a) decD - a) ∧ a ≤ digM L a := by
  rw [numText_eq]
  unfold digsM digM
  cases hs : signM L a
  · simp
  · have h1 : hasM L a [45] = true := hs
    have hlt : a < L.length := by
      rcases hasM_len h1 with h2 | h2
      · have : ([45] : Bs).length = 1 := rfl
        omega
      · cases h2
    have h45 : L[a] = 45 := by
      rw [hasM_nx (by decide), decide_eq_true_eq] at h1
      unfold nx at h1
      rw [List.getD, List.getElem?_eq_getElem hlt] at h1
      exact h1
    rw [if_pos rfl, if_pos rfl, drop_at hlt, h45]
    refine ⟨?_, by omega⟩
    rw [show a + 1 + whileM L (a + 1) decD - a = whileM L (a + 1) decD + 1 by omega, List.take_succ_cons]
    rfl
theorem wrapV_pos {v : Nat} {wv : Int} (hv : v ≤ 9223372036854775808) (hw : wv = wrapV false v) : IntKind.i64.wrap (v : Int) = wv := by
  subst hw
  unfold wrapV
  by_cases h : v = 9223372036854775808
  · subst h
    rfl
  · simp only [h, if_false, Bool.false_eq_true]
    exact wrapI (by omega) (by omega)
theorem wrapV_neg {v : Nat} {wv : Int} (hv : v ≤ 9223372036854775808) (hw : wv = wrapV false v) : wrap64 (0 - wv) = wrapV true v := by
  subst hw
  unfold wrapV
  by_cases h : v = 9223372036854775808
  · subst h
    simp only [if_true, if_false, Bool.false_eq_true]
    unfold wrap64
    omega
  · simp only [h, if_false, if_true, Bool.false_eq_true]
    unfold wrap64
    omega
/-- what number comes to -/
def RNP (rb : Nat) (S : ByteArray) (a deep n : Nat) (w : World) (e : Ending) (w' : World) : Prop :=
  ∃ v a' bad, e = .returned (.int .i64 v) ∧ Rr w' rb S a' deep n bad ∧ a' ≤ S.size ∧ Kept (N1 rb) w w' ∧
    ((bad = false ∧ a' = numTo S.data.toList a ∧ numberM S.data.toList a = some v) ∨ (bad = true ∧ numberM S.data.toList a = none))
/-- while the digits are read: f are left -/
def NRel (rb : Nat) (S : ByteArray) (D W deep n : Nat) (w : World) (f : Nat) (t5 : Value) (wr : World) : Prop :=
  ∃ k : Nat, k + f = W ∧ whileM S.data.toList (D + k) decD = f ∧ t5 = .int .u64 (valD ((S.data.toList.drop D).take k) : Nat) ∧ valD ((S.data.toList.drop D).take k) ≤ 9223372036854775808 ∧ D + k ≤ S.size ∧ Rr wr rb S (D + k) deep n false ∧ Kept (N1 rb) w wr

set_option maxRecDepth 100000 in
set_option maxHeartbeats 8000000 in
theorem rnumberN {rb a deep n : Nat} {S : ByteArray} {w : World} (h : Rr w rb S a deep n false) (ha : a ≤ S.size) (hS : S.size ≤ 1000000000000) (hL : Lb w) (hrb : 7 ≤ rb) :
    Calls Tryd.prog 89 #[.pointer (some ⟨rb, 0, none⟩)] w (RNP rb S a deep n w) := by
  have c0 := h.cell 0 rfl
  have c1 := h.cell 1 rfl
  have HR := Lib.hid h
  have HLW := Lib.hid hL
  have HN1 := Lib.hid (nextN h)
  have hsg : signM S.data.toList a = decide (nx S.data.toList a = 45) := hasM_nx (by decide)
  have hsz := Lib.size_eq S
  have HSZ := Lib.hid hsz
  have hdg : digM S.data.toList a = if signM S.data.toList a = true then a + 1 else a := rfl
  have hda : digM S.data.toList a ≤ S.size := by
    rw [hdg]
    split
    · rename_i hs
      rcases hasM_len (show hasM S.data.toList a [45] = true from hs) with h1 | h1
      · rw [hsz]; exact h1
      · cases h1
    · exact ha
  have HDA := Lib.hid hda
  have f1 := h.free 1 (by simp)
  clear h hL
  have hbig := fun h => number_big (L := S.data.toList) (a := a) (digsM_no _ _) h
  have hiff := fun h => number_iff (L := S.data.toList) (a := a) (digsM_no _ _) h
  have hnt := numText_slice S.data.toList a
  have hto : numTo S.data.toList a = digM S.data.toList a + whileM S.data.toList (digM S.data.toList a) decD := rfl
  have hWle := whileM_le S.data.toList (digM S.data.toList a) decD (by rw [← hsz]; exact hda)
  unfold digsM at hbig hiff
  have HNUM := Lib.hid (And.intro (And.intro hbig hiff) (And.intro hnt (And.intro hto hWle)))
  clear hbig hiff hnt hto hWle
  go_enter Tryd.func89, Tryd.ntmps89
  by_cases h45 : nx S.data.toList a = 45
  · have hn : (nx S.data.toList a).toNat = 45 := by rw [h45]; rfl
    have hni : (((nx S.data.toList a).toNat : Nat) : Int) = 45 := by omega
    have hd : digM S.data.toList a = a + 1 := by rw [hdg, hsg, h45]; rfl
    have hsv : signM S.data.toList a = true := by rw [hsg, h45]; rfl
    have HD := Lib.hid (And.intro hd hsv)
    have HA := Lib.hid (And.intro ha hS)
    have hw : wrap64 ((a : Int) + 1) = (a : Int) + 1 := by unfold wrap64; omega
    clear hsg hdg hd h45 hn ha hS hsv
    generalize (((nx S.data.toList a).toNat : Nat) : Int) = x at *
    subst hni
    go_upto_region 4 with (go_at_call 87; (with_reducible refine HN1.out.mono ?_); rintro e w1 ⟨rfl, hB⟩; have HB := Lib.hid hB; have c1' := cellAt hB c1; have f1' := freeAt hB c1 f1; clear hB)
    have h1 : Rr w1 rb S a deep n false := Blk.below HR.out HB.out
    have h2 : Rr (w1.setCell ⟨rb, 1, none⟩ (.int .i64 ((a : Int) + 1))) rb S (digM S.data.toList a) deep n false := by rw [HD.out.1]; simpa [Rr] using Blk.set h1 (j := 1) (.int .i64 ((a : Int) + 1))
    have h3 := ((Kept.refl (N1 rb) w).calm HB.out).put (p := ⟨rb, 1, none⟩) (.int .i64 ((a : Int) + 1)) (fun _ => rfl)
    generalize w1.setCell ⟨rb, 1, none⟩ (.int .i64 ((a : Int) + 1)) = wA at *
    have HW := Lib.hid (And.intro h2 h3)
    have hgt : decide (a < digM S.data.toList a) = signM S.data.toList a := by rw [HD.out.1, HD.out.2]; simp
    clear h1 h2 h3 HB c1' f1' hw
    generalize (45 : Int) = x9 at *
    have c0A := HW.out.1.cell 0 rfl
    have c1A := HW.out.1.cell 1 rfl
    generalize hDD : digM S.data.toList a = D at *
    obtain ⟨sg, hsg9⟩ : ∃ sg, sg = signM S.data.toList a := ⟨_, rfl⟩
    rw [← hsg9] at hgt HNUM
    have HSG := Lib.hid (show sg = true by rw [hsg9]; exact HD.out.2)
    clear hsg9
    generalize hWW : whileM S.data.toList D decD = W at *
    have H0 := Lib.hid (show NRel rb S D W deep n w W (.int .u64 0) wA from ⟨0, by omega, by simpa using hWW, rfl, by simp [valD], HDA.out, HW.out.1, HW.out.2⟩)
    have HWW := Lib.hid hWW
    have HDD := Lib.hid hDD
    have HSZS := Lib.hid (And.intro hsz hda)
    clear hWW hDD HD c0 c1 f1 hsz hda
    go_wp2_with fail
    go_loopw [5] (fun t5 wr => ∃ f, NRel rb S D W deep n w f t5 wr) (fun t5 wr => least (fun f => NRel rb S D W deep n w f t5 wr))
    case atStart => exact ⟨W, H0.out⟩
    case round =>
      obtain ⟨f9, hf9, hle9⟩ : ∃ f, NRel rb S D W deep n w f _ wr ∧ f ≤ least (fun f => NRel rb S D W deep n w f _ wr) := ⟨_, least_spec hrel, Nat.le_refl _⟩
      have HLE := Lib.hid hle9
      obtain ⟨k, hkf, hwk, rfl, hvk, hDk, hR, hK⟩ := hf9
      obtain ⟨p, hp⟩ : ∃ p, p = D + k := ⟨_, rfl⟩
      rw [← hp] at hwk hDk hR
      clear hrel hle9 H0
      have HR := Lib.hid hR
      have HK := Lib.hid hK
      have HNX := Lib.hid (fun (wx : World) (hx : Below wr.heap.size wr wx) => nextN (show Rr wx rb S p deep n false from Blk.below hR hx))
      have hdig := while_at (L := S.data.toList) (i := p)
      rw [hwk] at hdig
      have hbl := (nx S.data.toList p).toNat_lt
      cases f9 with
      | zero =>
        have hkW : k = W := by omega
        have hnd : ¬ (48 ≤ (nx S.data.toList p).toNat ∧ (nx S.data.toList p).toNat ≤ 57) := fun h => absurd (hdig.1 h) (by omega)
        have hpa : p ≤ 1000000000000 := by have := HA.out; omega
        obtain rfl := HSG.out
        subst hkW
        obtain ⟨v, hv⟩ : ∃ v, v = valD ((S.data.toList.drop D).take k) := ⟨_, rfl⟩
        obtain ⟨z, hz⟩ : ∃ z, z = wrapV true v := ⟨_, rfl⟩
        rw [← hv] at hvk ⊢
        have hz0 : -9223372036854775808 ≤ z := by rw [hz]; unfold wrapV; split <;> split <;> omega
        have hz1 : z ≤ 9223372036854775807 := by rw [hz]; unfold wrapV; split <;> split <;> omega
        obtain ⟨wv, hwv⟩ : ∃ wv, wv = wrapV false v := ⟨_, rfl⟩
        have hcv : IntKind.i64.wrap (v : Int) = wv := wrapV_pos hvk hwv
        have hng : wrap64 (-wv) = z := by rw [hz, show -wv = 0 - wv by omega]; exact wrapV_neg hvk hwv
        have HZ := Lib.hid (And.intro hz (And.intro hv (And.intro hwv hp)))
        have htx := (HNUM.out.2.1).1
        have hle := (HNUM.out.2.1).2
        rw [show D + k - a = p - a by omega] at htx
        have hap : a ≤ p := by omega
        have hpS : p ≤ S.size := hDk
        have hneq : (dec z == (S.extract a p).toList) = decide (dec z = numText S.data.toList a) := by
          have := ba_eq ⟨(dec z).toArray⟩ (S.extract a (a + (p - a)))
          rw [beq_toListBytes, ext_take, ← htx] at this
          rw [show a + (p - a) = p by omega] at this
          rw [ByteArray.toList_eq] at this
          exact this
        generalize (nx S.data.toList p).toNat = b at *
        clear hdig hle htx hwk hR hK hkf hDk hp hv hwv hz
        by_cases hb48 : 48 ≤ b
        · have hbi1 : (48 : Int) ≤ (b : Int) := by omega
          have hbi2 : ¬ (b : Int) ≤ 57 := by omega
          clear hnd
          go_upto_region 16 with (first
            | (go_at_call 87; (with_reducible refine (HNX.out _ (Below.refl _ _)).mono ?_); rintro e w1 ⟨rfl, hB⟩; have HBE := Lib.hid hB; clear hB)
            | (go_at_call 87; (with_reducible refine (HNX.out _ HBE.out).mono ?_); rintro e w2 ⟨rfl, hB⟩; have HBE := Lib.hid (HBE.out.trans (hB.mono HBE.out.size)); clear hB))
          generalize w2 = wE at *
          have hRe : Rr wE rb S p deep n false := Blk.below HR.out HBE.out
          have HRE := Lib.hid hRe
          have HKE := Lib.hid (HK.out.calm HBE.out)
          have HLE2 := Lib.hid (HLW.out.keep1 HKE.out hrb)
          clear hRe
          have HC37 := Lib.hid (fun (wx : World) (hx : Below wE.heap.size wE wx) => digitsR hz0 hz1 (HLE2.out.below hx HLE2.out.size))
          have HCELL := Lib.hid (show ∀ wx, Below wE.heap.size wE wx → wx.cell? ⟨rb, 0, none⟩ = some (.string S) ∧ wx.cell? ⟨rb, 1, none⟩ = some (.int .i64 (p : Int)) from fun wx hx => ⟨cellAt hx (HRE.out.cell 0 rfl), cellAt hx (HRE.out.cell 1 rfl)⟩)
          have c0e := HRE.out.cell 0 rfl
          have c1e := HRE.out.cell 1 rfl
          cases hr : decide (dec z = numText S.data.toList a)
          · rw [hr] at hneq
            have HNN := Lib.hid hr
            clear hr
            go_wp2_with fail
            go_region_held3 (fun wx : World => wx.cell? ⟨rb, 0, none⟩ = some (.string S) ∧ wx.cell? ⟨rb, 1, none⟩ = some (.int .i64 (p : Int)))
              (first | exact HCELL.out _ (Below.refl _ _) | exact HCELL.out _ (Below.refl _ _).drew | exact HCELL.out _ HBQ.out)
              (first
                | (go_simp; go_at_call 37; (with_reducible refine (HC37.out _ (Below.refl _ _).drew).mono ?_); rintro eB wB ⟨rfl, hbB⟩; have HBQ := Lib.hid ((Below.refl wE.heap.size wE).drew.trans hbB); clear hbB))
            go_upto_region 17 with fail
            have h4 := (HRE.out.below HBQ.out).cell 4 rfl
            have g4 := (HRE.out.below HBQ.out).free 4 (by simp)
            go_wp2_with fail
            go_ret
            have hRB := rr_bad (show Rr wB rb S p deep n false from Blk.below HRE.out HBQ.out)
            refine ⟨_, p, true, rfl, hRB.1, hpS, (HKE.out.calm HBQ.out).trans hRB.2, .inr ⟨rfl, ?_⟩⟩
            have h := HNUM.out.1.2 (by rw [← HZ.out.2.1]; exact hvk)
            rw [← HZ.out.2.1, ← HZ.out.1] at h
            rw [h, if_neg (of_decide_eq_false HNN.out)]
          · rw [hr] at hneq
            have HNN := Lib.hid hr
            clear hr
            go_wp2_with fail
            go_region_held3 (fun wx : World => wx.cell? ⟨rb, 0, none⟩ = some (.string S) ∧ wx.cell? ⟨rb, 1, none⟩ = some (.int .i64 (p : Int)))
              (first | exact HCELL.out _ (Below.refl _ _) | exact HCELL.out _ (Below.refl _ _).drew | exact HCELL.out _ HBQ.out)
              (first
                | (go_simp; go_at_call 37; (with_reducible refine (HC37.out _ (Below.refl _ _).drew).mono ?_); rintro eB wB ⟨rfl, hbB⟩; have HBQ := Lib.hid ((Below.refl wE.heap.size wE).drew.trans hbB); clear hbB))
            go_wp2_with fail
            go_ret
            refine ⟨z, p, false, rfl, Blk.below HRE.out HBQ.out, hpS, HKE.out.calm HBQ.out, .inl ⟨rfl, by rw [HNUM.out.2.2.1, HZ.out.2.2.2], ?_⟩⟩
            have h := HNUM.out.1.2 (by rw [← HZ.out.2.1]; exact hvk)
            rw [← HZ.out.2.1, ← HZ.out.1] at h
            rw [h, if_pos (of_decide_eq_true HNN.out)]
        · have hbi1 : ¬ (48 : Int) ≤ (b : Int) := by omega
          clear hnd
          go_upto_region 16 with (first
            | (go_at_call 87; (with_reducible refine (HNX.out _ (Below.refl _ _)).mono ?_); rintro e w1 ⟨rfl, hB⟩; have HBE := Lib.hid hB; clear hB))
          generalize w1 = wE at *
          have hRe : Rr wE rb S p deep n false := Blk.below HR.out HBE.out
          have HRE := Lib.hid hRe
          have HKE := Lib.hid (HK.out.calm HBE.out)
          have HLE2 := Lib.hid (HLW.out.keep1 HKE.out hrb)
          clear hRe
          have HC37 := Lib.hid (fun (wx : World) (hx : Below wE.heap.size wE wx) => digitsR hz0 hz1 (HLE2.out.below hx HLE2.out.size))
          have HCELL := Lib.hid (show ∀ wx, Below wE.heap.size wE wx → wx.cell? ⟨rb, 0, none⟩ = some (.string S) ∧ wx.cell? ⟨rb, 1, none⟩ = some (.int .i64 (p : Int)) from fun wx hx => ⟨cellAt hx (HRE.out.cell 0 rfl), cellAt hx (HRE.out.cell 1 rfl)⟩)
          have c0e := HRE.out.cell 0 rfl
          have c1e := HRE.out.cell 1 rfl
          cases hr : decide (dec z = numText S.data.toList a)
          · rw [hr] at hneq
            have HNN := Lib.hid hr
            clear hr
            go_wp2_with fail
            go_region_held3 (fun wx : World => wx.cell? ⟨rb, 0, none⟩ = some (.string S) ∧ wx.cell? ⟨rb, 1, none⟩ = some (.int .i64 (p : Int)))
              (first | exact HCELL.out _ (Below.refl _ _) | exact HCELL.out _ (Below.refl _ _).drew | exact HCELL.out _ HBQ.out)
              (first
                | (go_simp; go_at_call 37; (with_reducible refine (HC37.out _ (Below.refl _ _).drew).mono ?_); rintro eB wB ⟨rfl, hbB⟩; have HBQ := Lib.hid ((Below.refl wE.heap.size wE).drew.trans hbB); clear hbB))
            go_upto_region 17 with fail
            have h4 := (HRE.out.below HBQ.out).cell 4 rfl
            have g4 := (HRE.out.below HBQ.out).free 4 (by simp)
            go_wp2_with fail
            go_ret
            have hRB := rr_bad (show Rr wB rb S p deep n false from Blk.below HRE.out HBQ.out)
            refine ⟨_, p, true, rfl, hRB.1, hpS, (HKE.out.calm HBQ.out).trans hRB.2, .inr ⟨rfl, ?_⟩⟩
            have h := HNUM.out.1.2 (by rw [← HZ.out.2.1]; exact hvk)
            rw [← HZ.out.2.1, ← HZ.out.1] at h
            rw [h, if_neg (of_decide_eq_false HNN.out)]
          · rw [hr] at hneq
            have HNN := Lib.hid hr
            clear hr
            go_wp2_with fail
            go_region_held3 (fun wx : World => wx.cell? ⟨rb, 0, none⟩ = some (.string S) ∧ wx.cell? ⟨rb, 1, none⟩ = some (.int .i64 (p : Int)))
              (first | exact HCELL.out _ (Below.refl _ _) | exact HCELL.out _ (Below.refl _ _).drew | exact HCELL.out _ HBQ.out)
              (first
                | (go_simp; go_at_call 37; (with_reducible refine (HC37.out _ (Below.refl _ _).drew).mono ?_); rintro eB wB ⟨rfl, hbB⟩; have HBQ := Lib.hid ((Below.refl wE.heap.size wE).drew.trans hbB); clear hbB))
            go_wp2_with fail
            go_ret
            refine ⟨z, p, false, rfl, Blk.below HRE.out HBQ.out, hpS, HKE.out.calm HBQ.out, .inl ⟨rfl, by rw [HNUM.out.2.2.1, HZ.out.2.2.2], ?_⟩⟩
            have h := HNUM.out.1.2 (by rw [← HZ.out.2.1]; exact hvk)
            rw [← HZ.out.2.1, ← HZ.out.1] at h
            rw [h, if_pos (of_decide_eq_true HNN.out)]
      | succ f9 =>
        have hdg2 := hdig.2 (by omega)
        obtain ⟨hlt9, hst⟩ := while_next (L := S.data.toList) (i := p) (by rw [hwk]; omega)
        have htk := take_next (L := S.data.toList) (i := D) (k := k) (by rw [← hp]; exact hlt9)
        have hvn : valD ((S.data.toList.drop D).take (k + 1)) = 10 * valD ((S.data.toList.drop D).take k) + ((nx S.data.toList p).toNat - 48) := by rw [htk, valD_snoc, ← hp]
        generalize (nx S.data.toList p).toNat = b at *
        generalize valD ((S.data.toList.drop D).take k) = v at *
        have hb1 : (48 : Int) ≤ (b : Int) := by omega
        have hb2 : (b : Int) ≤ 57 := by omega
        have hv2 : (v : Int) ≤ 9223372036854775808 := by omega
        have HP := Lib.hid hp
        have HV := Lib.hid (And.intro hvn (And.intro hst (And.intro hwk hlt9)))
        have HKF := Lib.hid hkf
        have HVK := Lib.hid hvk
        have hpb : (p : Int) ≤ 1000000000000 := by have := HA.out; omega
        clear hdig hvn hst hlt9 hwk htk hkf hR hK hvk hp
        by_cases hov : (9223372036854775808 - ((b : Int) - 48)) / 10 < (v : Int)
        · go_upto_region 9 with (first
            | (go_at_call 87; (with_reducible refine (HNX.out _ (Below.refl _ _)).mono ?_); rintro e w1 ⟨rfl, hB⟩; have HB1 := Lib.hid hB; clear hB)
            | (go_at_call 87; (with_reducible refine (HNX.out _ HB1.out).mono ?_); rintro e w2 ⟨rfl, hB⟩; have HB2 := Lib.hid (HB1.out.trans (hB.mono HB1.out.size)); clear hB)
            | (go_at_call 87; (with_reducible refine (HNX.out _ HB2.out).mono ?_); rintro e w3 ⟨rfl, hB⟩; have HB3 := Lib.hid (HB2.out.trans (hB.mono HB2.out.size)); clear hB))
          have hR3 : Rr w3 rb S p deep n false := Blk.below HR.out HB3.out
          have d4 := hR3.cell 4 rfl
          have g4 := hR3.free 4 (by simp)
          have HR3 := Lib.hid hR3
          clear hR3
          go_wp2_with fail
          go_ret
          refine ⟨_, p, true, rfl, by simpa [Rr] using Blk.set HR3.out (j := 4) (.bool true), hDk, (HK.out.calm HB3.out).put (p := ⟨rb, 4, none⟩) _ (fun _ => rfl), .inr ⟨rfl, HNUM.out.1.1 ?_⟩⟩
          have h1 := valD_more ((S.data.toList.drop D).take (k + 1)) ((S.data.toList.drop D).take W |>.drop (k + 1))
          have h2 : (S.data.toList.drop D).take (k + 1) ++ ((S.data.toList.drop D).take W).drop (k + 1) = (S.data.toList.drop D).take W := by
            have := List.take_append_drop (k + 1) ((S.data.toList.drop D).take W)
            rw [List.take_take, Nat.min_eq_left (by have := HKF.out; omega)] at this
            exact this
          rw [h2, HV.out.1] at h1
          omega
        · go_wp2_with (first
            | (go_at_call 87; (with_reducible refine (HNX.out _ (Below.refl _ _)).mono ?_); rintro e w1 ⟨rfl, hB⟩; have HB1 := Lib.hid hB; clear hB)
            | (go_at_call 87; (with_reducible refine (HNX.out _ HB1.out).mono ?_); rintro e w2 ⟨rfl, hB⟩; have HB2 := Lib.hid (HB1.out.trans (hB.mono HB1.out.size)); clear hB)
            | (go_at_call 87; (with_reducible refine (HNX.out _ HB2.out).mono ?_); rintro e w3 ⟨rfl, hB⟩; have HB3 := Lib.hid (HB2.out.trans (hB.mono HB2.out.size)); have hR3 : Rr w3 rb S p deep n false := Blk.below HR.out HB3.out; have d1 := hR3.cell 1 rfl; have g1 := hR3.free 1 (by simp); have HR3 := Lib.hid hR3; clear hB hR3))
          have hfin : NRel rb S D W deep n w f9 (.int .u64 (10 * (v : Int) + ((b : Int) - 48))) (w3.setCell ⟨rb, 1, none⟩ (.int .i64 ((p : Int) + 1))) := by
            have hp := HP.out
            refine ⟨k + 1, by have := HKF.out; omega, ?_, ?_, ?_, ?_, ?_, (HK.out.calm HB3.out).put (p := ⟨rb, 1, none⟩) _ (fun _ => rfl)⟩
            · have h1 := HV.out.2.1
              have h2 := HV.out.2.2.1
              rw [show D + (k + 1) = p + 1 by omega]
              omega
            · rw [HV.out.1]
              go_num
            · rw [HV.out.1]
              omega
            · have := HV.out.2.2.2
              have := HSZS.out.1
              omega
            · rw [show D + (k + 1) = p + 1 by omega]
              simpa [Rr] using Blk.set HR3.out (j := 1) (.int .i64 ((p : Int) + 1))
          exact ⟨⟨f9, hfin⟩, Nat.lt_of_le_of_lt (least_le hfin) (by have := HLE.out; omega)⟩
  · have hn : ¬ (nx S.data.toList a).toNat = 45 := fun e => h45 (UInt8.toNat_inj.1 e)
    have hni : ¬ (((nx S.data.toList a).toNat : Nat) : Int) = 45 := by omega
    have hd : digM S.data.toList a = a := by rw [hdg, hsg]; simp [h45]
    have hsv : signM S.data.toList a = false := by rw [hsg]; simp [h45]
    have HD := Lib.hid (And.intro hd hsv)
    have HA := Lib.hid (And.intro ha hS)
    clear hsg hdg hd h45 hn ha hS hsv
    generalize (((nx S.data.toList a).toNat : Nat) : Int) = x at *
    have hx45 : (x == 45) = false := by simpa using hni
    go_upto_region 4 with (go_at_call 87; (with_reducible refine HN1.out.mono ?_); rintro e w1 ⟨rfl, hB⟩; have HB := Lib.hid hB; clear hB)
    have HW := Lib.hid (show Rr w1 rb S (digM S.data.toList a) deep n false ∧ Kept (N1 rb) w w1 from ⟨by rw [HD.out.1]; exact Blk.below HR.out HB.out, (Kept.refl (N1 rb) w).calm HB.out⟩)
    have hgt : decide (a < digM S.data.toList a) = signM S.data.toList a := by rw [HD.out.1, HD.out.2]; simp
    rename World => wA
    clear HB
    have c0A := HW.out.1.cell 0 rfl
    have c1A := HW.out.1.cell 1 rfl
    generalize hDD : digM S.data.toList a = D at *
    obtain ⟨sg, hsg9⟩ : ∃ sg, sg = signM S.data.toList a := ⟨_, rfl⟩
    rw [← hsg9] at hgt HNUM
    have HSG := Lib.hid (show sg = false by rw [hsg9]; exact HD.out.2)
    clear hsg9
    generalize hWW : whileM S.data.toList D decD = W at *
    have H0 := Lib.hid (show NRel rb S D W deep n w W (.int .u64 0) wA from ⟨0, by omega, by simpa using hWW, rfl, by simp [valD], HDA.out, HW.out.1, HW.out.2⟩)
    have HWW := Lib.hid hWW
    have HDD := Lib.hid hDD
    have HSZS := Lib.hid (And.intro hsz hda)
    clear hWW hDD HD c0 c1 f1 hsz hda
    go_wp2_with fail
    go_loopw [5] (fun t5 wr => ∃ f, NRel rb S D W deep n w f t5 wr) (fun t5 wr => least (fun f => NRel rb S D W deep n w f t5 wr))
    case atStart => exact ⟨W, H0.out⟩
    case round =>
      obtain ⟨f9, hf9, hle9⟩ : ∃ f, NRel rb S D W deep n w f _ wr ∧ f ≤ least (fun f => NRel rb S D W deep n w f _ wr) := ⟨_, least_spec hrel, Nat.le_refl _⟩
      have HLE := Lib.hid hle9
      obtain ⟨k, hkf, hwk, rfl, hvk, hDk, hR, hK⟩ := hf9
      obtain ⟨p, hp⟩ : ∃ p, p = D + k := ⟨_, rfl⟩
      rw [← hp] at hwk hDk hR
      clear hrel hle9 H0
      have HR := Lib.hid hR
      have HK := Lib.hid hK
      have HNX := Lib.hid (fun (wx : World) (hx : Below wr.heap.size wr wx) => nextN (show Rr wx rb S p deep n false from Blk.below hR hx))
      have hdig := while_at (L := S.data.toList) (i := p)
      rw [hwk] at hdig
      have hbl := (nx S.data.toList p).toNat_lt
      cases f9 with
      | zero =>
        have hkW : k = W := by omega
        have hnd : ¬ (48 ≤ (nx S.data.toList p).toNat ∧ (nx S.data.toList p).toNat ≤ 57) := fun h => absurd (hdig.1 h) (by omega)
        have hpa : p ≤ 1000000000000 := by have := HA.out; omega
        obtain rfl := HSG.out
        subst hkW
        obtain ⟨v, hv⟩ : ∃ v, v = valD ((S.data.toList.drop D).take k) := ⟨_, rfl⟩
        obtain ⟨z, hz⟩ : ∃ z, z = wrapV false v := ⟨_, rfl⟩
        rw [← hv] at hvk ⊢
        have hz0 : -9223372036854775808 ≤ z := by rw [hz]; unfold wrapV; split <;> split <;> omega
        have hz1 : z ≤ 9223372036854775807 := by rw [hz]; unfold wrapV; split <;> split <;> omega
        obtain ⟨wv, hwv⟩ : ∃ wv, wv = wrapV false v := ⟨_, rfl⟩
        have hcv : IntKind.i64.wrap (v : Int) = z := wrapV_pos hvk hz
        have hng : wrap64 (-wv) = wrapV true v := by rw [show -wv = 0 - wv by omega]; exact wrapV_neg hvk hwv
        have HZ := Lib.hid (And.intro hz (And.intro hv (And.intro hwv hp)))
        have htx := (HNUM.out.2.1).1
        have hle := (HNUM.out.2.1).2
        rw [show D + k - a = p - a by omega] at htx
        have hap : a ≤ p := by omega
        have hpS : p ≤ S.size := hDk
        have hneq : (dec z == (S.extract a p).toList) = decide (dec z = numText S.data.toList a) := by
          have := ba_eq ⟨(dec z).toArray⟩ (S.extract a (a + (p - a)))
          rw [beq_toListBytes, ext_take, ← htx] at this
          rw [show a + (p - a) = p by omega] at this
          rw [ByteArray.toList_eq] at this
          exact this
        generalize (nx S.data.toList p).toNat = b at *
        clear hdig hle htx hwk hR hK hkf hDk hp hv hwv hz
        by_cases hb48 : 48 ≤ b
        · have hbi1 : (48 : Int) ≤ (b : Int) := by omega
          have hbi2 : ¬ (b : Int) ≤ 57 := by omega
          clear hnd
          go_upto_region 16 with (first
            | (go_at_call 87; (with_reducible refine (HNX.out _ (Below.refl _ _)).mono ?_); rintro e w1 ⟨rfl, hB⟩; have HBE := Lib.hid hB; clear hB)
            | (go_at_call 87; (with_reducible refine (HNX.out _ HBE.out).mono ?_); rintro e w2 ⟨rfl, hB⟩; have HBE := Lib.hid (HBE.out.trans (hB.mono HBE.out.size)); clear hB))
          generalize w2 = wE at *
          have hRe : Rr wE rb S p deep n false := Blk.below HR.out HBE.out
          have HRE := Lib.hid hRe
          have HKE := Lib.hid (HK.out.calm HBE.out)
          have HLE2 := Lib.hid (HLW.out.keep1 HKE.out hrb)
          clear hRe
          have HC37 := Lib.hid (fun (wx : World) (hx : Below wE.heap.size wE wx) => digitsR hz0 hz1 (HLE2.out.below hx HLE2.out.size))
          have HCELL := Lib.hid (show ∀ wx, Below wE.heap.size wE wx → wx.cell? ⟨rb, 0, none⟩ = some (.string S) ∧ wx.cell? ⟨rb, 1, none⟩ = some (.int .i64 (p : Int)) from fun wx hx => ⟨cellAt hx (HRE.out.cell 0 rfl), cellAt hx (HRE.out.cell 1 rfl)⟩)
          have c0e := HRE.out.cell 0 rfl
          have c1e := HRE.out.cell 1 rfl
          cases hr : decide (dec z = numText S.data.toList a)
          · rw [hr] at hneq
            have HNN := Lib.hid hr
            clear hr
            go_wp2_with fail
            go_region_held3 (fun wx : World => wx.cell? ⟨rb, 0, none⟩ = some (.string S) ∧ wx.cell? ⟨rb, 1, none⟩ = some (.int .i64 (p : Int)))
              (first | exact HCELL.out _ (Below.refl _ _) | exact HCELL.out _ (Below.refl _ _).drew | exact HCELL.out _ HBQ.out)
              (first
                | (go_simp; go_at_call 37; (with_reducible refine (HC37.out _ (Below.refl _ _).drew).mono ?_); rintro eB wB ⟨rfl, hbB⟩; have HBQ := Lib.hid ((Below.refl wE.heap.size wE).drew.trans hbB); clear hbB))
            go_upto_region 17 with fail
            have h4 := (HRE.out.below HBQ.out).cell 4 rfl
            have g4 := (HRE.out.below HBQ.out).free 4 (by simp)
            go_wp2_with fail
            go_ret
            have hRB := rr_bad (show Rr wB rb S p deep n false from Blk.below HRE.out HBQ.out)
            refine ⟨_, p, true, rfl, hRB.1, hpS, (HKE.out.calm HBQ.out).trans hRB.2, .inr ⟨rfl, ?_⟩⟩
            have h := HNUM.out.1.2 (by rw [← HZ.out.2.1]; exact hvk)
            rw [← HZ.out.2.1, ← HZ.out.1] at h
            rw [h, if_neg (of_decide_eq_false HNN.out)]
          · rw [hr] at hneq
            have HNN := Lib.hid hr
            clear hr
            go_wp2_with fail
            go_region_held3 (fun wx : World => wx.cell? ⟨rb, 0, none⟩ = some (.string S) ∧ wx.cell? ⟨rb, 1, none⟩ = some (.int .i64 (p : Int)))
              (first | exact HCELL.out _ (Below.refl _ _) | exact HCELL.out _ (Below.refl _ _).drew | exact HCELL.out _ HBQ.out)
              (first
                | (go_simp; go_at_call 37; (with_reducible refine (HC37.out _ (Below.refl _ _).drew).mono ?_); rintro eB wB ⟨rfl, hbB⟩; have HBQ := Lib.hid ((Below.refl wE.heap.size wE).drew.trans hbB); clear hbB))
            go_wp2_with fail
            go_ret
            refine ⟨z, p, false, rfl, Blk.below HRE.out HBQ.out, hpS, HKE.out.calm HBQ.out, .inl ⟨rfl, by rw [HNUM.out.2.2.1, HZ.out.2.2.2], ?_⟩⟩
            have h := HNUM.out.1.2 (by rw [← HZ.out.2.1]; exact hvk)
            rw [← HZ.out.2.1, ← HZ.out.1] at h
            rw [h, if_pos (of_decide_eq_true HNN.out)]
        · have hbi1 : ¬ (48 : Int) ≤ (b : Int) := by omega
          clear hnd
          go_upto_region 16 with (first
            | (go_at_call 87; (with_reducible refine (HNX.out _ (Below.refl _ _)).mono ?_); rintro e w1 ⟨rfl, hB⟩; have HBE := Lib.hid hB; clear hB))
          generalize w1 = wE at *
          have hRe : Rr wE rb S p deep n false := Blk.below HR.out HBE.out
          have HRE := Lib.hid hRe
          have HKE := Lib.hid (HK.out.calm HBE.out)
          have HLE2 := Lib.hid (HLW.out.keep1 HKE.out hrb)
          clear hRe
          have HC37 := Lib.hid (fun (wx : World) (hx : Below wE.heap.size wE wx) => digitsR hz0 hz1 (HLE2.out.below hx HLE2.out.size))
          have HCELL := Lib.hid (show ∀ wx, Below wE.heap.size wE wx → wx.cell? ⟨rb, 0, none⟩ = some (.string S) ∧ wx.cell? ⟨rb, 1, none⟩ = some (.int .i64 (p : Int)) from fun wx hx => ⟨cellAt hx (HRE.out.cell 0 rfl), cellAt hx (HRE.out.cell 1 rfl)⟩)
          have c0e := HRE.out.cell 0 rfl
          have c1e := HRE.out.cell 1 rfl
          cases hr : decide (dec z = numText S.data.toList a)
          · rw [hr] at hneq
            have HNN := Lib.hid hr
            clear hr
            go_wp2_with fail
            go_region_held3 (fun wx : World => wx.cell? ⟨rb, 0, none⟩ = some (.string S) ∧ wx.cell? ⟨rb, 1, none⟩ = some (.int .i64 (p : Int)))
              (first | exact HCELL.out _ (Below.refl _ _) | exact HCELL.out _ (Below.refl _ _).drew | exact HCELL.out _ HBQ.out)
              (first
                | (go_simp; go_at_call 37; (with_reducible refine (HC37.out _ (Below.refl _ _).drew).mono ?_); rintro eB wB ⟨rfl, hbB⟩; have HBQ := Lib.hid ((Below.refl wE.heap.size wE).drew.trans hbB); clear hbB))
            go_upto_region 17 with fail
            have h4 := (HRE.out.below HBQ.out).cell 4 rfl
            have g4 := (HRE.out.below HBQ.out).free 4 (by simp)
            go_wp2_with fail
            go_ret
            have hRB := rr_bad (show Rr wB rb S p deep n false from Blk.below HRE.out HBQ.out)
            refine ⟨_, p, true, rfl, hRB.1, hpS, (HKE.out.calm HBQ.out).trans hRB.2, .inr ⟨rfl, ?_⟩⟩
            have h := HNUM.out.1.2 (by rw [← HZ.out.2.1]; exact hvk)
            rw [← HZ.out.2.1, ← HZ.out.1] at h
            rw [h, if_neg (of_decide_eq_false HNN.out)]
          · rw [hr] at hneq
            have HNN := Lib.hid hr
            clear hr
            go_wp2_with fail
            go_region_held3 (fun wx : World => wx.cell? ⟨rb, 0, none⟩ = some (.string S) ∧ wx.cell? ⟨rb, 1, none⟩ = some (.int .i64 (p : Int)))
              (first | exact HCELL.out _ (Below.refl _ _) | exact HCELL.out _ (Below.refl _ _).drew | exact HCELL.out _ HBQ.out)
              (first
                | (go_simp; go_at_call 37; (with_reducible refine (HC37.out _ (Below.refl _ _).drew).mono ?_); rintro eB wB ⟨rfl, hbB⟩; have HBQ := Lib.hid ((Below.refl wE.heap.size wE).drew.trans hbB); clear hbB))
            go_wp2_with fail
            go_ret
            refine ⟨z, p, false, rfl, Blk.below HRE.out HBQ.out, hpS, HKE.out.calm HBQ.out, .inl ⟨rfl, by rw [HNUM.out.2.2.1, HZ.out.2.2.2], ?_⟩⟩
            have h := HNUM.out.1.2 (by rw [← HZ.out.2.1]; exact hvk)
            rw [← HZ.out.2.1, ← HZ.out.1] at h
            rw [h, if_pos (of_decide_eq_true HNN.out)]
      | succ f9 =>
        have hdg2 := hdig.2 (by omega)
        obtain ⟨hlt9, hst⟩ := while_next (L := S.data.toList) (i := p) (by rw [hwk]; omega)
        have htk := take_next (L := S.data.toList) (i := D) (k := k) (by rw [← hp]; exact hlt9)
        have hvn : valD ((S.data.toList.drop D).take (k + 1)) = 10 * valD ((S.data.toList.drop D).take k) + ((nx S.data.toList p).toNat - 48) := by rw [htk, valD_snoc, ← hp]
        generalize (nx S.data.toList p).toNat = b at *
        generalize valD ((S.data.toList.drop D).take k) = v at *
        have hb1 : (48 : Int) ≤ (b : Int) := by omega
        have hb2 : (b : Int) ≤ 57 := by omega
        have hv2 : (v : Int) ≤ 9223372036854775808 := by omega
        have HP := Lib.hid hp
        have HV := Lib.hid (And.intro hvn (And.intro hst (And.intro hwk hlt9)))
        have HKF := Lib.hid hkf
        have HVK := Lib.hid hvk
        have hpb : (p : Int) ≤ 1000000000000 := by have := HA.out; omega
        clear hdig hvn hst hlt9 hwk htk hkf hR hK hvk hp
        by_cases hov : (9223372036854775808 - ((b : Int) - 48)) / 10 < (v : Int)
        · go_upto_region 9 with (first
            | (go_at_call 87; (with_reducible refine (HNX.out _ (Below.refl _ _)).mono ?_); rintro e w1 ⟨rfl, hB⟩; have HB1 := Lib.hid hB; clear hB)
            | (go_at_call 87; (with_reducible refine (HNX.out _ HB1.out).mono ?_); rintro e w2 ⟨rfl, hB⟩; have HB2 := Lib.hid (HB1.out.trans (hB.mono HB1.out.size)); clear hB)
            | (go_at_call 87; (with_reducible refine (HNX.out _ HB2.out).mono ?_); rintro e w3 ⟨rfl, hB⟩; have HB3 := Lib.hid (HB2.out.trans (hB.mono HB2.out.size)); clear hB))
          have hR3 : Rr w3 rb S p deep n false := Blk.below HR.out HB3.out
          have d4 := hR3.cell 4 rfl
          have g4 := hR3.free 4 (by simp)
          have HR3 := Lib.hid hR3
          clear hR3
          go_wp2_with fail
          go_ret
          refine ⟨_, p, true, rfl, by simpa [Rr] using Blk.set HR3.out (j := 4) (.bool true), hDk, (HK.out.calm HB3.out).put (p := ⟨rb, 4, none⟩) _ (fun _ => rfl), .inr ⟨rfl, HNUM.out.1.1 ?_⟩⟩
          have h1 := valD_more ((S.data.toList.drop D).take (k + 1)) ((S.data.toList.drop D).take W |>.drop (k + 1))
          have h2 : (S.data.toList.drop D).take (k + 1) ++ ((S.data.toList.drop D).take W).drop (k + 1) = (S.data.toList.drop D).take W := by
            have := List.take_append_drop (k + 1) ((S.data.toList.drop D).take W)
            rw [List.take_take, Nat.min_eq_left (by have := HKF.out; omega)] at this
            exact this
          rw [h2, HV.out.1] at h1
          omega
        · go_wp2_with (first
            | (go_at_call 87; (with_reducible refine (HNX.out _ (Below.refl _ _)).mono ?_); rintro e w1 ⟨rfl, hB⟩; have HB1 := Lib.hid hB; clear hB)
            | (go_at_call 87; (with_reducible refine (HNX.out _ HB1.out).mono ?_); rintro e w2 ⟨rfl, hB⟩; have HB2 := Lib.hid (HB1.out.trans (hB.mono HB1.out.size)); clear hB)
            | (go_at_call 87; (with_reducible refine (HNX.out _ HB2.out).mono ?_); rintro e w3 ⟨rfl, hB⟩; have HB3 := Lib.hid (HB2.out.trans (hB.mono HB2.out.size)); have hR3 : Rr w3 rb S p deep n false := Blk.below HR.out HB3.out; have d1 := hR3.cell 1 rfl; have g1 := hR3.free 1 (by simp); have HR3 := Lib.hid hR3; clear hB hR3))
          have hfin : NRel rb S D W deep n w f9 (.int .u64 (10 * (v : Int) + ((b : Int) - 48))) (w3.setCell ⟨rb, 1, none⟩ (.int .i64 ((p : Int) + 1))) := by
            have hp := HP.out
            refine ⟨k + 1, by have := HKF.out; omega, ?_, ?_, ?_, ?_, ?_, (HK.out.calm HB3.out).put (p := ⟨rb, 1, none⟩) _ (fun _ => rfl)⟩
            · have h1 := HV.out.2.1
              have h2 := HV.out.2.2.1
              rw [show D + (k + 1) = p + 1 by omega]
              omega
            · rw [HV.out.1]
              go_num
            · rw [HV.out.1]
              omega
            · have := HV.out.2.2.2
              have := HSZS.out.1
              omega
            · rw [show D + (k + 1) = p + 1 by omega]
              simpa [Rr] using Blk.set HR3.out (j := 1) (.int .i64 ((p : Int) + 1))
          exact ⟨⟨f9, hfin⟩, Nat.lt_of_le_of_lt (least_le hfin) (by have := HLE.out; omega)⟩
end Go.Proofs.YtofpdhkdnbnobaaDoor
