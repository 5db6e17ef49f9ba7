/-
  Is's inner closure at an error value (walks). Not a statement of the seat.
-/
import Derived.Test.YtbldidiibkcelaaGreatDoorEIsC1
namespace Go.Proofs.YtbldidiibkcelaaGreatDoor
open Go.RowKit

set_option maxRecDepth 100000 in
set_option maxHeartbeats 16000000 in
theorem is53k5 {a0 : Addr} {i c : Int} {t : Bs} {b : Dt} {cs : List Int} {bl : Option Addr} {bn bc : Nat} {cl : Option Addr} {cn cc : Nat} {l : Option Addr} {n cap : Nat} {k' i' c' : Int} {t' : Bs} {b' : Dt} {bl' : Option Addr} {bn' bc' : Nat} {cl' : Option Addr} {cn' cc' : Nat} {l' : Option Addr} {n' cap' : Nat} {S : Nat → Prop} {w : World} {p tb fb tt : Nat} {u : Bool}
    (hW : Blk w p (V11 5 i c t b bl bn bc cl cn cc l n cap)) (hF : FoAt S w b.l bl bn bc) (h5 : okB b) (hG : FoAt S w b'.l bl' bn' bc') (hS : ∀ x, S x → x < w.heap.size) (h5' : k' = 5 → okB b') (hL : LB a0 w) (hT : Blk w tb (V11 k' i' c' t' b' bl' bn' bc' cl' cn' cc' l' n' cap')) (hFB : Blk w fb [.bool u]) (htf : tb ≠ fb) (way : Value) :
    Calls Tryz.prog 53 #[.iface 106 (.agg #[.pointer (some ⟨p, 0, none⟩)]), way, .pointer (some ⟨tb, 0, none⟩), .pointer (some ⟨fb, 0, none⟩), .pointer (some ⟨tt, 0, none⟩)] w (ISP a0 (isHead ⟨k', i', c', t', b', [], .nil⟩ 5 i c t b cs) fb w) := by
  have HK := Lib.hid (show ∀ wx, Kept (N1 fb) w wx → (wx.cell? ⟨tb, 0, none⟩ = some (.int .i64 k') ∧ wx.cell? ⟨tb, 1, none⟩ = some (.int .i64 i') ∧ wx.cell? ⟨tb, 2, none⟩ = some (.int .i64 c') ∧ wx.cell? ⟨tb, 3, none⟩ = some (.string ⟨t'.toArray⟩) ∧ wx.cell? ⟨tb, 4, none⟩ = some (.int .i64 b'.k) ∧ wx.cell? ⟨tb, 5, none⟩ = some (.int .i64 b'.i) ∧ wx.cell? ⟨tb, 6, none⟩ = some (.int .u64 b'.b) ∧ wx.cell? ⟨tb, 7, none⟩ = some (.string ⟨b'.t.toArray⟩) ∧ wx.cell? ⟨tb, 8, none⟩ = some (.slice bl' bn' bc') ∧ wx.cell? ⟨tb, 9, none⟩ = some (.slice cl' cn' cc') ∧ wx.cell? ⟨tb, 10, none⟩ = some (.slice l' n' cap')) from fun wx hx => by
    have a := hT.keep hx (fun h => htf h)
    exact ⟨a.cell 0 rfl, a.cell 1 rfl, a.cell 2 rfl, a.cell 3 rfl, a.cell 4 rfl, a.cell 5 rfl, a.cell 6 rfl, a.cell 7 rfl, a.cell 8 rfl, a.cell 9 rfl, a.cell 10 rfl⟩)
  have ha := fun v w => hold106 v w
  have hb2 := fun v w => ta106_6 v w
  have hm := fun v w => made164 v w
  have HM := Lib.hid (fun (wx : World) (hx : Below w.heap.size w wx) => mk164 wx (hW.below hx))
  have HE := Lib.hid (fun (wx : World) (hx : Below w.heap.size w wx) => eequalN (a0 := a0) (k := 5) (i := i) (c := c) (t := t) (b := b) (bl := bl) (bn := bn) (bc := bc) (cl := cl) (cn := cn) (cc := cc) (l := l) (n := n) (cap := cap) (k' := k') (i' := i') (c' := c') (t' := t') (b' := b') (cl' := cl') (cn' := cn') (cc' := cc') (l' := l') (n' := n') (cap' := cap')
    (hF.same (w' := wx) (fun x _ hlt => hx.block x hlt) (fun x hx2 _ => hx2)) (hG.same (w' := wx) (fun x _ hlt => hx.block x hlt) (fun x hx2 _ => hx2)) (fun x hx2 => Nat.lt_of_lt_of_le (hS x hx2) hx.size) (fun e => h5) h5' (hL.below hx))
  have hN := eqE_nrm 5 i c t b k' i' c' t' b'
  have hmm : eqE 5 i c t b k' i' c' t' b' = eqE 5 i c t b k' i' c' t' b' := by rfl
  have hh : isHead ⟨k', i', c', t', b', [], .nil⟩ 5 i c t b cs = (if decd (if k' = 6 then (false, 0) else eqE 5 i c t b k' i' c' t' b') then (if k' = 6 then (false, 0) else eqE 5 i c t b k' i' c' t' b') else (false, 0)) := by
    rw [← hmm]; rfl
  generalize isHead ⟨k', i', c', t', b', [], .nil⟩ 5 i c t b cs = h at *
  generalize eqE 5 i c t b k' i' c' t' b' = r at *
  unfold vE at HE HM
  have HF := Lib.hid hFB
  have HH := Lib.hid hh
  clear hG hS h5' hL hT hFB htf hmm hh hW hF h5 
  go_enter Tryz.func53, Tryz.ntmps53
  go_upto_region 1 with fail
  by_cases h6 : k' = 6
  · subst h6
    have y0 := (HF.out.below (Below.refl _ _).drew).cell 0 rfl
    have y1 := (HF.out.below (Below.refl _ _).drew).free 0 (by simp)
    refine wp_region_L (S := fun wx : World => wx.cell? ⟨tb, 0, none⟩ = some (.int .i64 6) ∧ wx.cell? ⟨tb, 1, none⟩ = some (.int .i64 i') ∧ wx.cell? ⟨tb, 2, none⟩ = some (.int .i64 c') ∧ wx.cell? ⟨tb, 3, none⟩ = some (.string ⟨t'.toArray⟩) ∧ wx.cell? ⟨tb, 4, none⟩ = some (.int .i64 b'.k) ∧ wx.cell? ⟨tb, 5, none⟩ = some (.int .i64 b'.i) ∧ wx.cell? ⟨tb, 6, none⟩ = some (.int .u64 b'.b) ∧ wx.cell? ⟨tb, 7, none⟩ = some (.string ⟨b'.t.toArray⟩) ∧ wx.cell? ⟨tb, 8, none⟩ = some (.slice bl' bn' bc') ∧ wx.cell? ⟨tb, 9, none⟩ = some (.slice cl' cn' cc') ∧ wx.cell? ⟨tb, 10, none⟩ = some (.slice l' n' cap')) (by kernel_rfl) ?_ (fun hHeld => ?_)
    · exact HK.out _ (Kept.refl _ _).drew
    refine takeL (i := 0) 1 (v := ?wa0) rfl (by kernel_rfl) (by kernel_rfl) (by kernel_rfl) (by kernel_rfl) (by kernel_rfl) (fun _ _ _ h => h) (Or.inl ⟨by rfl, ?hz0⟩) (by assumption) ?res0
    case hz0 => (intro w9 hSw; (try dsimp only at hSw); go_simp; try with_reducible rfl)
    try simp only [Act.put, List.setIfInBounds_toArray, List.set_cons_zero, List.set_cons_succ]
    refine takeL (i := 1) 2 (v := ?wa1) rfl (by kernel_rfl) (by kernel_rfl) (by kernel_rfl) (by kernel_rfl) (by kernel_rfl) (fun _ _ _ h => h) (Or.inl ⟨by rfl, ?hz1⟩) (by assumption) ?res1
    case hz1 => (intro w9 hSw; (try dsimp only at hSw); go_simp; try with_reducible rfl)
    try simp only [Act.put, List.setIfInBounds_toArray, List.set_cons_zero, List.set_cons_succ]
    refine takeL (i := 2) 3 (v := ?wa2) rfl (by kernel_rfl) (by kernel_rfl) (by kernel_rfl) (by kernel_rfl) (by kernel_rfl) (fun _ _ _ h => h) (Or.inl ⟨by rfl, ?hz2⟩) (by assumption) ?res2
    case hz2 => (intro w9 hSw; (try dsimp only at hSw); go_simp; try with_reducible rfl)
    try simp only [Act.put, List.setIfInBounds_toArray, List.set_cons_zero, List.set_cons_succ]
    refine takeL (i := 3) 4 (v := ?wa3) rfl (by kernel_rfl) (by kernel_rfl) (by kernel_rfl) (by kernel_rfl) (by kernel_rfl) (fun _ _ _ h => h) (Or.inl ⟨by rfl, ?hz3⟩) (by assumption) ?res3
    case hz3 => (intro w9 hSw; (try dsimp only at hSw); go_simp; try with_reducible rfl)
    try simp only [Act.put, List.setIfInBounds_toArray, List.set_cons_zero, List.set_cons_succ]
    refine takeL (i := 4) 5 (v := undef) rfl (by kernel_rfl) (by kernel_rfl) (by kernel_rfl) (by kernel_rfl) (by kernel_rfl) (fun _ _ _ h => h) (Or.inr ⟨by rfl, rfl⟩) (by assumption) ?res4
    try simp only [Act.put, List.setIfInBounds_toArray, List.set_cons_zero, List.set_cons_succ]
    refine takeL (i := 5) 6 (v := undef) rfl (by kernel_rfl) (by kernel_rfl) (by kernel_rfl) (by kernel_rfl) (by kernel_rfl) (fun _ _ _ h => h) (Or.inr ⟨by rfl, rfl⟩) (by assumption) ?res5
    try simp only [Act.put, List.setIfInBounds_toArray, List.set_cons_zero, List.set_cons_succ]
    refine takeL (i := 7) 8 (v := undef) rfl (by kernel_rfl) (by kernel_rfl) (by kernel_rfl) (by kernel_rfl) (by kernel_rfl) (fun _ _ _ h => h) (Or.inr ⟨by rfl, rfl⟩) (by assumption) ?res7
    try simp only [Act.put, List.setIfInBounds_toArray, List.set_cons_zero, List.set_cons_succ]
    refine oneL (i := 6) (by kernel_rfl) rfl (fun K hK => ?_)
    refine ite_no (fun h => Bool.noConfusion (show false = true from h)) ?_
    refine hK.out _ _ (by assumption) (fun hHeld2 => ?_)
    clear hK K hHeld
    try simp only [Act.put, List.setIfInBounds_toArray, List.set_cons_zero, List.set_cons_succ]
    refine oneL (i := 8) (by kernel_rfl) rfl (fun K hK => ?_)
    refine ite_no (fun h => Bool.noConfusion (show false = true from h)) ?_
    refine hK.out _ _ (by assumption) (fun hHeld => ?_)
    clear hK K hHeld2
    try simp only [Act.put, List.setIfInBounds_toArray, List.set_cons_zero, List.set_cons_succ]
    refine takeL (i := 9) 10 (v := ?wa9) rfl (by kernel_rfl) (by kernel_rfl) (by kernel_rfl) (by kernel_rfl) (by kernel_rfl) (fun _ _ _ h => h) (Or.inl ⟨by rfl, ?hz9⟩) (by assumption) ?res9
    case hz9 => (intro w9 hSw; (try dsimp only at hSw); go_simp; try with_reducible rfl)
    try simp only [Act.put, List.setIfInBounds_toArray, List.set_cons_zero, List.set_cons_succ]
    refine lastL (i := 10) (by kernel_rfl) rfl (by kernel_rfl) (by kernel_rfl) (fun K hK => ?_)
    go_simp
    refine hK.out _ _ ?_
    clear hK K hHeld
    have hf := (HF.out.below (Below.refl w.heap.size w).drew).set (j := 0) (.bool false)
    have HF2 := Lib.hid hf
    have z0: ((w.setCell ⟨fb, 0, none⟩ (.bool false)).drew).cell? ⟨fb, 0, none⟩ = some (.bool false) := hf.cell 0 rfl
    clear hf
    go_wp2_with fail
    go_ret
    exact ⟨(Kept.of' (Below.refl w.heap.size w).drew).put (p := ⟨fb, 0, none⟩) _ (fun _ => rfl), .inr (.inl ⟨by rw [HH.out]; rfl, rfl, HF2.out⟩)⟩
  have n6 : (k' != 6) = true := by simpa using h6
  have HH6 := Lib.hid h6
  clear h6
  rcases hN with rfl | rfl | rfl
  · go_region_held3 (fun wx : World => wx.cell? ⟨tb, 0, none⟩ = some (.int .i64 k') ∧ wx.cell? ⟨tb, 1, none⟩ = some (.int .i64 i') ∧ wx.cell? ⟨tb, 2, none⟩ = some (.int .i64 c') ∧ wx.cell? ⟨tb, 3, none⟩ = some (.string ⟨t'.toArray⟩) ∧ wx.cell? ⟨tb, 4, none⟩ = some (.int .i64 b'.k) ∧ wx.cell? ⟨tb, 5, none⟩ = some (.int .i64 b'.i) ∧ wx.cell? ⟨tb, 6, none⟩ = some (.int .u64 b'.b) ∧ wx.cell? ⟨tb, 7, none⟩ = some (.string ⟨b'.t.toArray⟩) ∧ wx.cell? ⟨tb, 8, none⟩ = some (.slice bl' bn' bc') ∧ wx.cell? ⟨tb, 9, none⟩ = some (.slice cl' cn' cc') ∧ wx.cell? ⟨tb, 10, none⟩ = some (.slice l' n' cap'))
      (first | exact HK.out _ (Kept.refl _ _) | exact HK.out _ (Kept.refl _ _).drew | exact HK.out _ (Kept.of' HB2.out) | exact HK.out _ (Kept.of' HB3.out) | exact HK.out _ ((Kept.of' HB3.out).put (p := ⟨fb, 0, none⟩) _ (fun _ => rfl)) | exact HK.out _ ((Kept.refl _ _).drew.put (p := ⟨fb, 0, none⟩) _ (fun _ => rfl)))
      (first
        | (go_simp; go_at_call 164; (with_reducible refine (HM.out _ (Below.refl _ _).drew).mono ?_); rintro e2 w2 ⟨rfl, hB⟩; have HB2 := Lib.hid ((Below.refl w.heap.size w).drew.trans hB); clear hB)
        | (go_simp; go_at_call 43; (with_reducible refine (HE.out _ HB2.out).mono ?_); rintro e3 w3 ⟨hB, ⟨_, rfl⟩ | ⟨hne9, _⟩⟩; rotate_left; (cases hne9); have HB3 := Lib.hid (HB2.out.trans (hB.mono HB2.out.size)); have y0 := (HF.out.below HB3.out).cell 0 rfl; have y1 := (HF.out.below HB3.out).free 0 (by simp); clear hB))
    all_goals
      have hf := (HF.out.below HB3.out).set (j := 0) (.bool true)
      have HF2 := Lib.hid hf
      have z0 := hf.cell 0 rfl
      clear hf
      go_wp2_with fail
      go_ret
      exact ⟨(Kept.of' HB3.out).put (p := ⟨fb, 0, none⟩) _ (fun _ => rfl), .inl ⟨by rw [HH.out]; rw [if_neg HH6.out]; rfl, rfl, HF2.out⟩⟩
  · go_region_held3 (fun wx : World => wx.cell? ⟨tb, 0, none⟩ = some (.int .i64 k') ∧ wx.cell? ⟨tb, 1, none⟩ = some (.int .i64 i') ∧ wx.cell? ⟨tb, 2, none⟩ = some (.int .i64 c') ∧ wx.cell? ⟨tb, 3, none⟩ = some (.string ⟨t'.toArray⟩) ∧ wx.cell? ⟨tb, 4, none⟩ = some (.int .i64 b'.k) ∧ wx.cell? ⟨tb, 5, none⟩ = some (.int .i64 b'.i) ∧ wx.cell? ⟨tb, 6, none⟩ = some (.int .u64 b'.b) ∧ wx.cell? ⟨tb, 7, none⟩ = some (.string ⟨b'.t.toArray⟩) ∧ wx.cell? ⟨tb, 8, none⟩ = some (.slice bl' bn' bc') ∧ wx.cell? ⟨tb, 9, none⟩ = some (.slice cl' cn' cc') ∧ wx.cell? ⟨tb, 10, none⟩ = some (.slice l' n' cap'))
      (first | exact HK.out _ (Kept.refl _ _) | exact HK.out _ (Kept.refl _ _).drew | exact HK.out _ (Kept.of' HB2.out) | exact HK.out _ (Kept.of' HB3.out) | exact HK.out _ ((Kept.of' HB3.out).put (p := ⟨fb, 0, none⟩) _ (fun _ => rfl)) | exact HK.out _ ((Kept.refl _ _).drew.put (p := ⟨fb, 0, none⟩) _ (fun _ => rfl)))
      (first
        | (go_simp; go_at_call 164; (with_reducible refine (HM.out _ (Below.refl _ _).drew).mono ?_); rintro e2 w2 ⟨rfl, hB⟩; have HB2 := Lib.hid ((Below.refl w.heap.size w).drew.trans hB); clear hB)
        | (go_simp; go_at_call 43; (with_reducible refine (HE.out _ HB2.out).mono ?_); rintro e3 w3 ⟨hB, ⟨_, rfl⟩ | ⟨hne9, _⟩⟩; rotate_left; (cases hne9); have HB3 := Lib.hid (HB2.out.trans (hB.mono HB2.out.size)); have y0 := (HF.out.below HB3.out).cell 0 rfl; have y1 := (HF.out.below HB3.out).free 0 (by simp); clear hB))
    all_goals
      have hf := (HF.out.below HB3.out).set (j := 0) (.bool false)
      have HF2 := Lib.hid hf
      have z0 := hf.cell 0 rfl
      clear hf
      go_wp2_with fail
      go_ret
      exact ⟨(Kept.of' HB3.out).put (p := ⟨fb, 0, none⟩) _ (fun _ => rfl), .inr (.inl ⟨by rw [HH.out]; rw [if_neg HH6.out]; rfl, rfl, HF2.out⟩)⟩
  · refine wp_region_L (S := fun wx : World => wx.cell? ⟨tb, 0, none⟩ = some (.int .i64 k') ∧ wx.cell? ⟨tb, 1, none⟩ = some (.int .i64 i') ∧ wx.cell? ⟨tb, 2, none⟩ = some (.int .i64 c') ∧ wx.cell? ⟨tb, 3, none⟩ = some (.string ⟨t'.toArray⟩) ∧ wx.cell? ⟨tb, 4, none⟩ = some (.int .i64 b'.k) ∧ wx.cell? ⟨tb, 5, none⟩ = some (.int .i64 b'.i) ∧ wx.cell? ⟨tb, 6, none⟩ = some (.int .u64 b'.b) ∧ wx.cell? ⟨tb, 7, none⟩ = some (.string ⟨b'.t.toArray⟩) ∧ wx.cell? ⟨tb, 8, none⟩ = some (.slice bl' bn' bc') ∧ wx.cell? ⟨tb, 9, none⟩ = some (.slice cl' cn' cc') ∧ wx.cell? ⟨tb, 10, none⟩ = some (.slice l' n' cap')) (by kernel_rfl) ?_ (fun hHeld => ?_)
    · exact HK.out _ (Kept.refl _ _).drew
    refine takeL (i := 0) 1 (v := ?va0) rfl (by kernel_rfl) (by kernel_rfl) (by kernel_rfl) (by kernel_rfl) (by kernel_rfl) (fun _ _ _ h => h) (Or.inl ⟨by rfl, ?hy0⟩) (by assumption) ?rest0
    case hy0 => (intro w9 hSw; (try dsimp only at hSw); go_simp; try with_reducible rfl)
    try simp only [Act.put, List.setIfInBounds_toArray, List.set_cons_zero, List.set_cons_succ]
    refine takeL (i := 1) 2 (v := ?va1) rfl (by kernel_rfl) (by kernel_rfl) (by kernel_rfl) (by kernel_rfl) (by kernel_rfl) (fun _ _ _ h => h) (Or.inl ⟨by rfl, ?hy1⟩) (by assumption) ?rest1
    case hy1 => (intro w9 hSw; (try dsimp only at hSw); go_simp; try with_reducible rfl)
    try simp only [Act.put, List.setIfInBounds_toArray, List.set_cons_zero, List.set_cons_succ]
    refine takeL (i := 2) 3 (v := ?va2) rfl (by kernel_rfl) (by kernel_rfl) (by kernel_rfl) (by kernel_rfl) (by kernel_rfl) (fun _ _ _ h => h) (Or.inl ⟨by rfl, ?hy2⟩) (by assumption) ?rest2
    case hy2 => (intro w9 hSw; (try dsimp only at hSw); go_simp; try with_reducible rfl)
    try simp only [Act.put, List.setIfInBounds_toArray, List.set_cons_zero, List.set_cons_succ]
    refine takeL (i := 3) 4 (v := ?va3) rfl (by kernel_rfl) (by kernel_rfl) (by kernel_rfl) (by kernel_rfl) (by kernel_rfl) (fun _ _ _ h => h) (Or.inl ⟨by rfl, ?hy3⟩) (by assumption) ?rest3
    case hy3 => (intro w9 hSw; (try dsimp only at hSw); go_simp; try with_reducible rfl)
    try simp only [Act.put, List.setIfInBounds_toArray, List.set_cons_zero, List.set_cons_succ]
    refine takeL (i := 4) 5 (v := ?va4) rfl (by kernel_rfl) (by kernel_rfl) (by kernel_rfl) (by kernel_rfl) (by kernel_rfl) (fun _ _ _ h => h) (Or.inl ⟨by rfl, ?hy4⟩) (by assumption) ?rest4
    case hy4 => (intro w9 hSw; (try dsimp only at hSw); go_simp; try with_reducible rfl)
    try simp only [Act.put, List.setIfInBounds_toArray, List.set_cons_zero, List.set_cons_succ]
    refine takeL (i := 5) 6 (v := ?va5) rfl (by kernel_rfl) (by kernel_rfl) (by kernel_rfl) (by kernel_rfl) (by kernel_rfl) (fun _ _ _ h => h) (Or.inl ⟨by rfl, ?hy5⟩) (by assumption) ?rest5
    case hy5 => (intro w9 hSw; (try dsimp only at hSw); go_simp; try with_reducible rfl)
    try simp only [Act.put, List.setIfInBounds_toArray, List.set_cons_zero, List.set_cons_succ]
    refine takeL (i := 7) 8 (v := ?va7) rfl (by kernel_rfl) (by kernel_rfl) (by kernel_rfl) (by kernel_rfl) (by kernel_rfl) (fun _ _ _ h => h) (Or.inl ⟨by rfl, ?hy7⟩) (by assumption) ?rest7
    case hy7 => (intro w9 hSw; (try dsimp only at hSw); go_simp; try with_reducible rfl)
    try simp only [Act.put, List.setIfInBounds_toArray, List.set_cons_zero, List.set_cons_succ]
    refine oneL (i := 6) (by kernel_rfl) rfl (fun K hK => ?_)
    (go_simp; go_at_call 164; (with_reducible refine (HM.out _ (Below.refl _ _).drew).mono ?_); rintro e2 w2 ⟨rfl, hB⟩; have HB2 := Lib.hid ((Below.refl w.heap.size w).drew.trans hB); clear hB)
    refine hK.out _ _ ?_ (fun hHeld2 => ?_)
    · exact HK.out _ (Kept.of' HB2.out)
    clear hK K hHeld
    try simp only [Act.put, List.setIfInBounds_toArray, List.set_cons_zero, List.set_cons_succ]
    refine oneL (i := 8) (by kernel_rfl) rfl (fun K hK => ?_)
    (go_simp; go_at_call 43; (with_reducible refine (HE.out _ HB2.out).mono ?_); rintro e3 w3 ⟨hB, ⟨hne9, _⟩ | ⟨_, rfl⟩⟩; (cases hne9); have HB3 := Lib.hid (HB2.out.trans (hB.mono HB2.out.size)); clear hB)
    exact ⟨rfl, Kept.of' HB3.out, .inr (.inr ⟨by rw [HH.out, if_neg HH6.out]; rfl, rfl⟩)⟩

set_option maxRecDepth 100000 in
set_option maxHeartbeats 16000000 in
theorem is53k6 {a0 : Addr} {i c : Int} {t : Bs} {b : Dt} {cs : List Int} {cl : Option Addr} {cn cc : Nat} {k' i' c' : Int} {t' : Bs} {b' : Dt} {bl' : Option Addr} {bn' bc' : Nat} {cl' : Option Addr} {cn' cc' : Nat} {l' : Option Addr} {n' cap' : Nat} {S : Nat → Prop} {w : World} {tb fb tt : Nat} {u : Bool}
    (hG : FoAt S w b'.l bl' bn' bc') (hS : ∀ x, S x → x < w.heap.size) (h5' : k' = 5 → okB b') (hL : LB a0 w) (hT : Blk w tb (V11 k' i' c' t' b' bl' bn' bc' cl' cn' cc' l' n' cap')) (hFB : Blk w fb [.bool u]) (htf : tb ≠ fb) (way : Value) :
    Calls Tryz.prog 53 #[.iface 107 (.slice cl cn cc), way, .pointer (some ⟨tb, 0, none⟩), .pointer (some ⟨fb, 0, none⟩), .pointer (some ⟨tt, 0, none⟩)] w (ISP a0 (isHead ⟨k', i', c', t', b', [], .nil⟩ 6 i c t b cs) fb w) := by
  have HK := Lib.hid (show ∀ wx, Kept (N1 fb) w wx → (wx.cell? ⟨tb, 0, none⟩ = some (.int .i64 k') ∧ wx.cell? ⟨tb, 1, none⟩ = some (.int .i64 i') ∧ wx.cell? ⟨tb, 2, none⟩ = some (.int .i64 c') ∧ wx.cell? ⟨tb, 3, none⟩ = some (.string ⟨t'.toArray⟩) ∧ wx.cell? ⟨tb, 4, none⟩ = some (.int .i64 b'.k) ∧ wx.cell? ⟨tb, 5, none⟩ = some (.int .i64 b'.i) ∧ wx.cell? ⟨tb, 6, none⟩ = some (.int .u64 b'.b) ∧ wx.cell? ⟨tb, 7, none⟩ = some (.string ⟨b'.t.toArray⟩) ∧ wx.cell? ⟨tb, 8, none⟩ = some (.slice bl' bn' bc') ∧ wx.cell? ⟨tb, 9, none⟩ = some (.slice cl' cn' cc') ∧ wx.cell? ⟨tb, 10, none⟩ = some (.slice l' n' cap')) from fun wx hx => by
    have a := hT.keep hx (fun h => htf h)
    exact ⟨a.cell 0 rfl, a.cell 1 rfl, a.cell 2 rfl, a.cell 3 rfl, a.cell 4 rfl, a.cell 5 rfl, a.cell 6 rfl, a.cell 7 rfl, a.cell 8 rfl, a.cell 9 rfl, a.cell 10 rfl⟩)
  have ha := fun v w => hold107 v w
  have hb2 := fun v w => ta107_6 v w
  have hm := fun v w => made184 v w
  have HM := Lib.hid (fun (wx : World) (hx : Below w.heap.size w wx) => mk184 cl cn cc wx)
  have HE := Lib.hid (fun (wx : World) (hx : Below w.heap.size w wx) => eequalN (a0 := a0) (k := 6) (i := 0) (c := 0) (t := []) (b := Dt.zero) (bl := none) (bn := 0) (bc := 0) (cl := cl) (cn := cn) (cc := cc) (l := none) (n := 0) (cap := 0) (k' := k') (i' := i') (c' := c') (t' := t') (b' := b') (cl' := cl') (cn' := cn') (cc' := cc') (l' := l') (n' := n') (cap' := cap')
    (FoAt.nil S wx) (hG.same (w' := wx) (fun x _ hlt => hx.block x hlt) (fun x hx2 _ => hx2)) (fun x hx2 => Nat.lt_of_lt_of_le (hS x hx2) hx.size) (fun e => absurd e (by omega)) h5' (hL.below hx))
  have hN := eqE_nrm 6 0 0 [] Dt.zero k' i' c' t' b'
  have hmm : eqE 6 i c t b k' i' c' t' b' = eqE 6 0 0 [] Dt.zero k' i' c' t' b' := by rfl
  have hh : isHead ⟨k', i', c', t', b', [], .nil⟩ 6 i c t b cs = (if decd (if k' = 6 then (false, 0) else eqE 6 0 0 [] Dt.zero k' i' c' t' b') then (if k' = 6 then (false, 0) else eqE 6 0 0 [] Dt.zero k' i' c' t' b') else (false, 0)) := by
    rw [← hmm]; rfl
  generalize isHead ⟨k', i', c', t', b', [], .nil⟩ 6 i c t b cs = h at *
  generalize eqE 6 0 0 [] Dt.zero k' i' c' t' b' = r at *
  unfold vE at HE HM
  unfold Dt.zero at HE HM
  have HF := Lib.hid hFB
  have HH := Lib.hid hh
  clear hG hS h5' hL hT hFB htf hmm hh 
  go_enter Tryz.func53, Tryz.ntmps53
  go_upto_region 1 with fail
  by_cases h6 : k' = 6
  · subst h6
    have y0 := (HF.out.below (Below.refl _ _).drew).cell 0 rfl
    have y1 := (HF.out.below (Below.refl _ _).drew).free 0 (by simp)
    refine wp_region_L (S := fun wx : World => wx.cell? ⟨tb, 0, none⟩ = some (.int .i64 6) ∧ wx.cell? ⟨tb, 1, none⟩ = some (.int .i64 i') ∧ wx.cell? ⟨tb, 2, none⟩ = some (.int .i64 c') ∧ wx.cell? ⟨tb, 3, none⟩ = some (.string ⟨t'.toArray⟩) ∧ wx.cell? ⟨tb, 4, none⟩ = some (.int .i64 b'.k) ∧ wx.cell? ⟨tb, 5, none⟩ = some (.int .i64 b'.i) ∧ wx.cell? ⟨tb, 6, none⟩ = some (.int .u64 b'.b) ∧ wx.cell? ⟨tb, 7, none⟩ = some (.string ⟨b'.t.toArray⟩) ∧ wx.cell? ⟨tb, 8, none⟩ = some (.slice bl' bn' bc') ∧ wx.cell? ⟨tb, 9, none⟩ = some (.slice cl' cn' cc') ∧ wx.cell? ⟨tb, 10, none⟩ = some (.slice l' n' cap')) (by kernel_rfl) ?_ (fun hHeld => ?_)
    · exact HK.out _ (Kept.refl _ _).drew
    refine takeL (i := 0) 1 (v := ?wa0) rfl (by kernel_rfl) (by kernel_rfl) (by kernel_rfl) (by kernel_rfl) (by kernel_rfl) (fun _ _ _ h => h) (Or.inl ⟨by rfl, ?hz0⟩) (by assumption) ?res0
    case hz0 => (intro w9 hSw; (try dsimp only at hSw); go_simp; try with_reducible rfl)
    try simp only [Act.put, List.setIfInBounds_toArray, List.set_cons_zero, List.set_cons_succ]
    refine takeL (i := 1) 2 (v := ?wa1) rfl (by kernel_rfl) (by kernel_rfl) (by kernel_rfl) (by kernel_rfl) (by kernel_rfl) (fun _ _ _ h => h) (Or.inl ⟨by rfl, ?hz1⟩) (by assumption) ?res1
    case hz1 => (intro w9 hSw; (try dsimp only at hSw); go_simp; try with_reducible rfl)
    try simp only [Act.put, List.setIfInBounds_toArray, List.set_cons_zero, List.set_cons_succ]
    refine takeL (i := 2) 3 (v := ?wa2) rfl (by kernel_rfl) (by kernel_rfl) (by kernel_rfl) (by kernel_rfl) (by kernel_rfl) (fun _ _ _ h => h) (Or.inl ⟨by rfl, ?hz2⟩) (by assumption) ?res2
    case hz2 => (intro w9 hSw; (try dsimp only at hSw); go_simp; try with_reducible rfl)
    try simp only [Act.put, List.setIfInBounds_toArray, List.set_cons_zero, List.set_cons_succ]
    refine takeL (i := 3) 4 (v := ?wa3) rfl (by kernel_rfl) (by kernel_rfl) (by kernel_rfl) (by kernel_rfl) (by kernel_rfl) (fun _ _ _ h => h) (Or.inl ⟨by rfl, ?hz3⟩) (by assumption) ?res3
    case hz3 => (intro w9 hSw; (try dsimp only at hSw); go_simp; try with_reducible rfl)
    try simp only [Act.put, List.setIfInBounds_toArray, List.set_cons_zero, List.set_cons_succ]
    refine takeL (i := 4) 5 (v := undef) rfl (by kernel_rfl) (by kernel_rfl) (by kernel_rfl) (by kernel_rfl) (by kernel_rfl) (fun _ _ _ h => h) (Or.inr ⟨by rfl, rfl⟩) (by assumption) ?res4
    try simp only [Act.put, List.setIfInBounds_toArray, List.set_cons_zero, List.set_cons_succ]
    refine takeL (i := 5) 6 (v := undef) rfl (by kernel_rfl) (by kernel_rfl) (by kernel_rfl) (by kernel_rfl) (by kernel_rfl) (fun _ _ _ h => h) (Or.inr ⟨by rfl, rfl⟩) (by assumption) ?res5
    try simp only [Act.put, List.setIfInBounds_toArray, List.set_cons_zero, List.set_cons_succ]
    refine takeL (i := 7) 8 (v := undef) rfl (by kernel_rfl) (by kernel_rfl) (by kernel_rfl) (by kernel_rfl) (by kernel_rfl) (fun _ _ _ h => h) (Or.inr ⟨by rfl, rfl⟩) (by assumption) ?res7
    try simp only [Act.put, List.setIfInBounds_toArray, List.set_cons_zero, List.set_cons_succ]
    refine oneL (i := 6) (by kernel_rfl) rfl (fun K hK => ?_)
    refine ite_no (fun h => Bool.noConfusion (show false = true from h)) ?_
    refine hK.out _ _ (by assumption) (fun hHeld2 => ?_)
    clear hK K hHeld
    try simp only [Act.put, List.setIfInBounds_toArray, List.set_cons_zero, List.set_cons_succ]
    refine oneL (i := 8) (by kernel_rfl) rfl (fun K hK => ?_)
    refine ite_no (fun h => Bool.noConfusion (show false = true from h)) ?_
    refine hK.out _ _ (by assumption) (fun hHeld => ?_)
    clear hK K hHeld2
    try simp only [Act.put, List.setIfInBounds_toArray, List.set_cons_zero, List.set_cons_succ]
    refine takeL (i := 9) 10 (v := ?wa9) rfl (by kernel_rfl) (by kernel_rfl) (by kernel_rfl) (by kernel_rfl) (by kernel_rfl) (fun _ _ _ h => h) (Or.inl ⟨by rfl, ?hz9⟩) (by assumption) ?res9
    case hz9 => (intro w9 hSw; (try dsimp only at hSw); go_simp; try with_reducible rfl)
    try simp only [Act.put, List.setIfInBounds_toArray, List.set_cons_zero, List.set_cons_succ]
    refine lastL (i := 10) (by kernel_rfl) rfl (by kernel_rfl) (by kernel_rfl) (fun K hK => ?_)
    go_simp
    refine hK.out _ _ ?_
    clear hK K hHeld
    have hf := (HF.out.below (Below.refl w.heap.size w).drew).set (j := 0) (.bool false)
    have HF2 := Lib.hid hf
    have z0: ((w.setCell ⟨fb, 0, none⟩ (.bool false)).drew).cell? ⟨fb, 0, none⟩ = some (.bool false) := hf.cell 0 rfl
    clear hf
    go_wp2_with fail
    go_ret
    exact ⟨(Kept.of' (Below.refl w.heap.size w).drew).put (p := ⟨fb, 0, none⟩) _ (fun _ => rfl), .inr (.inl ⟨by rw [HH.out]; rfl, rfl, HF2.out⟩)⟩
  have n6 : (k' != 6) = true := by simpa using h6
  have HH6 := Lib.hid h6
  clear h6
  rcases hN with rfl | rfl | rfl
  · go_region_held3 (fun wx : World => wx.cell? ⟨tb, 0, none⟩ = some (.int .i64 k') ∧ wx.cell? ⟨tb, 1, none⟩ = some (.int .i64 i') ∧ wx.cell? ⟨tb, 2, none⟩ = some (.int .i64 c') ∧ wx.cell? ⟨tb, 3, none⟩ = some (.string ⟨t'.toArray⟩) ∧ wx.cell? ⟨tb, 4, none⟩ = some (.int .i64 b'.k) ∧ wx.cell? ⟨tb, 5, none⟩ = some (.int .i64 b'.i) ∧ wx.cell? ⟨tb, 6, none⟩ = some (.int .u64 b'.b) ∧ wx.cell? ⟨tb, 7, none⟩ = some (.string ⟨b'.t.toArray⟩) ∧ wx.cell? ⟨tb, 8, none⟩ = some (.slice bl' bn' bc') ∧ wx.cell? ⟨tb, 9, none⟩ = some (.slice cl' cn' cc') ∧ wx.cell? ⟨tb, 10, none⟩ = some (.slice l' n' cap'))
      (first | exact HK.out _ (Kept.refl _ _) | exact HK.out _ (Kept.refl _ _).drew | exact HK.out _ (Kept.of' HB2.out) | exact HK.out _ (Kept.of' HB3.out) | exact HK.out _ ((Kept.of' HB3.out).put (p := ⟨fb, 0, none⟩) _ (fun _ => rfl)) | exact HK.out _ ((Kept.refl _ _).drew.put (p := ⟨fb, 0, none⟩) _ (fun _ => rfl)))
      (first
        | (go_simp; go_at_call 184; (with_reducible refine (HM.out _ (Below.refl _ _).drew).mono ?_); rintro e2 w2 ⟨rfl, hB⟩; have HB2 := Lib.hid ((Below.refl w.heap.size w).drew.trans hB); clear hB)
        | (go_simp; go_at_call 43; (with_reducible refine (HE.out _ HB2.out).mono ?_); rintro e3 w3 ⟨hB, ⟨_, rfl⟩ | ⟨hne9, _⟩⟩; rotate_left; (cases hne9); have HB3 := Lib.hid (HB2.out.trans (hB.mono HB2.out.size)); have y0 := (HF.out.below HB3.out).cell 0 rfl; have y1 := (HF.out.below HB3.out).free 0 (by simp); clear hB))
    all_goals
      have hf := (HF.out.below HB3.out).set (j := 0) (.bool true)
      have HF2 := Lib.hid hf
      have z0 := hf.cell 0 rfl
      clear hf
      go_wp2_with fail
      go_ret
      exact ⟨(Kept.of' HB3.out).put (p := ⟨fb, 0, none⟩) _ (fun _ => rfl), .inl ⟨by rw [HH.out]; rw [if_neg HH6.out]; rfl, rfl, HF2.out⟩⟩
  · go_region_held3 (fun wx : World => wx.cell? ⟨tb, 0, none⟩ = some (.int .i64 k') ∧ wx.cell? ⟨tb, 1, none⟩ = some (.int .i64 i') ∧ wx.cell? ⟨tb, 2, none⟩ = some (.int .i64 c') ∧ wx.cell? ⟨tb, 3, none⟩ = some (.string ⟨t'.toArray⟩) ∧ wx.cell? ⟨tb, 4, none⟩ = some (.int .i64 b'.k) ∧ wx.cell? ⟨tb, 5, none⟩ = some (.int .i64 b'.i) ∧ wx.cell? ⟨tb, 6, none⟩ = some (.int .u64 b'.b) ∧ wx.cell? ⟨tb, 7, none⟩ = some (.string ⟨b'.t.toArray⟩) ∧ wx.cell? ⟨tb, 8, none⟩ = some (.slice bl' bn' bc') ∧ wx.cell? ⟨tb, 9, none⟩ = some (.slice cl' cn' cc') ∧ wx.cell? ⟨tb, 10, none⟩ = some (.slice l' n' cap'))
      (first | exact HK.out _ (Kept.refl _ _) | exact HK.out _ (Kept.refl _ _).drew | exact HK.out _ (Kept.of' HB2.out) | exact HK.out _ (Kept.of' HB3.out) | exact HK.out _ ((Kept.of' HB3.out).put (p := ⟨fb, 0, none⟩) _ (fun _ => rfl)) | exact HK.out _ ((Kept.refl _ _).drew.put (p := ⟨fb, 0, none⟩) _ (fun _ => rfl)))
      (first
        | (go_simp; go_at_call 184; (with_reducible refine (HM.out _ (Below.refl _ _).drew).mono ?_); rintro e2 w2 ⟨rfl, hB⟩; have HB2 := Lib.hid ((Below.refl w.heap.size w).drew.trans hB); clear hB)
        | (go_simp; go_at_call 43; (with_reducible refine (HE.out _ HB2.out).mono ?_); rintro e3 w3 ⟨hB, ⟨_, rfl⟩ | ⟨hne9, _⟩⟩; rotate_left; (cases hne9); have HB3 := Lib.hid (HB2.out.trans (hB.mono HB2.out.size)); have y0 := (HF.out.below HB3.out).cell 0 rfl; have y1 := (HF.out.below HB3.out).free 0 (by simp); clear hB))
    all_goals
      have hf := (HF.out.below HB3.out).set (j := 0) (.bool false)
      have HF2 := Lib.hid hf
      have z0 := hf.cell 0 rfl
      clear hf
      go_wp2_with fail
      go_ret
      exact ⟨(Kept.of' HB3.out).put (p := ⟨fb, 0, none⟩) _ (fun _ => rfl), .inr (.inl ⟨by rw [HH.out]; rw [if_neg HH6.out]; rfl, rfl, HF2.out⟩)⟩
  · refine wp_region_L (S := fun wx : World => wx.cell? ⟨tb, 0, none⟩ = some (.int .i64 k') ∧ wx.cell? ⟨tb, 1, none⟩ = some (.int .i64 i') ∧ wx.cell? ⟨tb, 2, none⟩ = some (.int .i64 c') ∧ wx.cell? ⟨tb, 3, none⟩ = some (.string ⟨t'.toArray⟩) ∧ wx.cell? ⟨tb, 4, none⟩ = some (.int .i64 b'.k) ∧ wx.cell? ⟨tb, 5, none⟩ = some (.int .i64 b'.i) ∧ wx.cell? ⟨tb, 6, none⟩ = some (.int .u64 b'.b) ∧ wx.cell? ⟨tb, 7, none⟩ = some (.string ⟨b'.t.toArray⟩) ∧ wx.cell? ⟨tb, 8, none⟩ = some (.slice bl' bn' bc') ∧ wx.cell? ⟨tb, 9, none⟩ = some (.slice cl' cn' cc') ∧ wx.cell? ⟨tb, 10, none⟩ = some (.slice l' n' cap')) (by kernel_rfl) ?_ (fun hHeld => ?_)
    · exact HK.out _ (Kept.refl _ _).drew
    refine takeL (i := 0) 1 (v := ?va0) rfl (by kernel_rfl) (by kernel_rfl) (by kernel_rfl) (by kernel_rfl) (by kernel_rfl) (fun _ _ _ h => h) (Or.inl ⟨by rfl, ?hy0⟩) (by assumption) ?rest0
    case hy0 => (intro w9 hSw; (try dsimp only at hSw); go_simp; try with_reducible rfl)
    try simp only [Act.put, List.setIfInBounds_toArray, List.set_cons_zero, List.set_cons_succ]
    refine takeL (i := 1) 2 (v := ?va1) rfl (by kernel_rfl) (by kernel_rfl) (by kernel_rfl) (by kernel_rfl) (by kernel_rfl) (fun _ _ _ h => h) (Or.inl ⟨by rfl, ?hy1⟩) (by assumption) ?rest1
    case hy1 => (intro w9 hSw; (try dsimp only at hSw); go_simp; try with_reducible rfl)
    try simp only [Act.put, List.setIfInBounds_toArray, List.set_cons_zero, List.set_cons_succ]
    refine takeL (i := 2) 3 (v := ?va2) rfl (by kernel_rfl) (by kernel_rfl) (by kernel_rfl) (by kernel_rfl) (by kernel_rfl) (fun _ _ _ h => h) (Or.inl ⟨by rfl, ?hy2⟩) (by assumption) ?rest2
    case hy2 => (intro w9 hSw; (try dsimp only at hSw); go_simp; try with_reducible rfl)
    try simp only [Act.put, List.setIfInBounds_toArray, List.set_cons_zero, List.set_cons_succ]
    refine takeL (i := 3) 4 (v := ?va3) rfl (by kernel_rfl) (by kernel_rfl) (by kernel_rfl) (by kernel_rfl) (by kernel_rfl) (fun _ _ _ h => h) (Or.inl ⟨by rfl, ?hy3⟩) (by assumption) ?rest3
    case hy3 => (intro w9 hSw; (try dsimp only at hSw); go_simp; try with_reducible rfl)
    try simp only [Act.put, List.setIfInBounds_toArray, List.set_cons_zero, List.set_cons_succ]
    refine takeL (i := 4) 5 (v := ?va4) rfl (by kernel_rfl) (by kernel_rfl) (by kernel_rfl) (by kernel_rfl) (by kernel_rfl) (fun _ _ _ h => h) (Or.inl ⟨by rfl, ?hy4⟩) (by assumption) ?rest4
    case hy4 => (intro w9 hSw; (try dsimp only at hSw); go_simp; try with_reducible rfl)
    try simp only [Act.put, List.setIfInBounds_toArray, List.set_cons_zero, List.set_cons_succ]
    refine takeL (i := 5) 6 (v := ?va5) rfl (by kernel_rfl) (by kernel_rfl) (by kernel_rfl) (by kernel_rfl) (by kernel_rfl) (fun _ _ _ h => h) (Or.inl ⟨by rfl, ?hy5⟩) (by assumption) ?rest5
    case hy5 => (intro w9 hSw; (try dsimp only at hSw); go_simp; try with_reducible rfl)
    try simp only [Act.put, List.setIfInBounds_toArray, List.set_cons_zero, List.set_cons_succ]
    refine takeL (i := 7) 8 (v := ?va7) rfl (by kernel_rfl) (by kernel_rfl) (by kernel_rfl) (by kernel_rfl) (by kernel_rfl) (fun _ _ _ h => h) (Or.inl ⟨by rfl, ?hy7⟩) (by assumption) ?rest7
    case hy7 => (intro w9 hSw; (try dsimp only at hSw); go_simp; try with_reducible rfl)
    try simp only [Act.put, List.setIfInBounds_toArray, List.set_cons_zero, List.set_cons_succ]
    refine oneL (i := 6) (by kernel_rfl) rfl (fun K hK => ?_)
    (go_simp; go_at_call 184; (with_reducible refine (HM.out _ (Below.refl _ _).drew).mono ?_); rintro e2 w2 ⟨rfl, hB⟩; have HB2 := Lib.hid ((Below.refl w.heap.size w).drew.trans hB); clear hB)
    refine hK.out _ _ ?_ (fun hHeld2 => ?_)
    · exact HK.out _ (Kept.of' HB2.out)
    clear hK K hHeld
    refine oneL (i := 8) (by kernel_rfl) rfl (fun K hK => ?_)
    (go_simp; go_at_call 43; (with_reducible refine (HE.out _ HB2.out).mono ?_); rintro e3 w3 ⟨hB, ⟨hne9, _⟩ | ⟨_, rfl⟩⟩; (cases hne9); have HB3 := Lib.hid (HB2.out.trans (hB.mono HB2.out.size)); clear hB)
    exact ⟨rfl, Kept.of' HB3.out, .inr (.inr ⟨by rw [HH.out, if_neg HH6.out]; rfl, rfl⟩)⟩
end Go.Proofs.YtbldidiibkcelaaGreatDoor
