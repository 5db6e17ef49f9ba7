/-
  Error of an error that wraps one (walks). Not a statement of the seat.
-/
import Derived.Test.YtbldidiibkcelaaGreatDoorTETxJ
import Derived.Test.YtbldidiibkcelaaGreatDoorTHeldL
import Derived.Deep.RegionHeld3
namespace Go.Proofs.YtbldidiibkcelaaGreatDoor
open Go.RowKit

set_option maxRecDepth 100000 in
set_option maxHeartbeats 8000000 in
theorem err148 {S : Nat → Prop} {p : Nat} {w : World} {k i c : Int} {t : Bs} {b : Dt} {bl : Option Addr} {bn bc : Nat} {cl : Option Addr} {cn cc : Nat} {l : Option Addr} {n cap : Nat} {k2 i2 c2 : Int} {t2 : Bs} {b2 : Dt} {cs2 : List Int} {ks : Eo} {o : Option Bs} (hW : Blk w p (V11 k i c t b bl bn bc cl cn cc l n cap)) (hF : EoAt S w (.cons k2 i2 c2 t2 b2 cs2 ks .nil) l n cap)
    (ht : t.length ≤ 65535) (ho : ∀ s, o = some s → s.length ≤ 140737488355328) (hK : ∀ wx v, Below w.heap.size w wx → EVAt S (fun _ => False) wx ⟨k2, i2, c2, t2, b2, cs2, ks⟩ v → ∃ K rv, MethE v K rv ∧ ∀ wy, Below wx.heap.size wx wy → Calls Tryz.prog K #[rv] wy (TXP o wy)) :
    Calls Tryz.prog 148 #[.pointer (some ⟨p, 0, none⟩)] w (TXP (o.map (fun s => t ++ 58 :: 32 :: s)) w) := by
  have HKP := Lib.hid (show ∀ wx, Below w.heap.size w wx → wx.cell? ⟨p, 3, none⟩ = some (.string ⟨t.toArray⟩) from fun wx hx => (hW.below hx).cell 3 rfl)
  have HU := Lib.hid (fun (wx : World) (hx : Below w.heap.size w wx) => unw149 (S := S) (N := fun _ => False) (hW.below hx) (hF.same (w' := wx) (fun x _ hl => hx.block x hl) (fun x hx' _ => hx')) (fun x h => h.elim))
  have HC := Lib.hid hK
  have HT := Lib.hid (And.intro ht ho)
  clear hW hF ht ho hK
  go_enter Tryz.func148, Tryz.ntmps148
  go_upto_region 1 with fail
  refine wp_region_L (S := fun wx : World => wx.cell? ⟨p, 3, none⟩ = some (.string ⟨t.toArray⟩)) (by kernel_rfl) ?_ (fun hHeld => ?_)
  · exact HKP.out _ (Below.refl _ _).drew

  refine takeL (i := 0) 1 (v := ?va0) rfl (by kernel_rfl) (by kernel_rfl) (by kernel_rfl) (by kernel_rfl) (by kernel_rfl) (fun _ _ _ h => h) (Or.inl ⟨by rfl, ?hy0⟩) (by assumption) ?rest0
  case hy0 => (intro w9 hSw; (try dsimp only at hSw); go_simp; try with_reducible rfl)
  try simp only [Act.put, List.setIfInBounds_toArray, List.set_cons_zero, List.set_cons_succ]
  refine takeL (i := 1) 2 (v := ?va1) rfl (by kernel_rfl) (by kernel_rfl) (by kernel_rfl) (by kernel_rfl) (by kernel_rfl) (fun _ _ _ h => h) (Or.inl ⟨by rfl, ?hy1⟩) (by assumption) ?rest1
  case hy1 => (intro w9 hSw; (try dsimp only at hSw); go_simp; try with_reducible rfl)
  try simp only [Act.put, List.setIfInBounds_toArray, List.set_cons_zero, List.set_cons_succ]
  refine takeL (i := 2) 3 (v := ?va2) rfl (by kernel_rfl) (by kernel_rfl) (by kernel_rfl) (by kernel_rfl) (by kernel_rfl) (fun _ _ _ h => h) (Or.inl ⟨by rfl, ?hy2⟩) (by assumption) ?rest2
  case hy2 => (intro w9 hSw; (try dsimp only at hSw); go_simp; try with_reducible rfl)
  try simp only [Act.put, List.setIfInBounds_toArray, List.set_cons_zero, List.set_cons_succ]
  refine takeL (i := 3) 4 (v := ?va3) rfl (by kernel_rfl) (by kernel_rfl) (by kernel_rfl) (by kernel_rfl) (by kernel_rfl) (fun _ _ _ h => h) (Or.inl ⟨by rfl, ?hy3⟩) (by assumption) ?rest3
  case hy3 => (intro w9 hSw; (try dsimp only at hSw); go_simp; try with_reducible rfl)
  try simp only [Act.put, List.setIfInBounds_toArray, List.set_cons_zero, List.set_cons_succ]
  refine takeL (i := 4) 7 (v := ?va4) rfl (by kernel_rfl) (by kernel_rfl) (by kernel_rfl) (by kernel_rfl) (by kernel_rfl) (fun _ _ _ h => h) (Or.inl ⟨by rfl, ?hy4⟩) (by assumption) ?rest4
  case hy4 => (intro w9 hSw; (try dsimp only at hSw); go_simp; try with_reducible rfl)
  try simp only [Act.put, List.setIfInBounds_toArray, List.set_cons_zero, List.set_cons_succ]
  refine takeL (i := 5) 6 (v := ?va5) rfl (by kernel_rfl) (by kernel_rfl) (by kernel_rfl) (by kernel_rfl) (by kernel_rfl) (fun _ _ _ h => h) (Or.inl ⟨by rfl, ?hy5⟩) (by assumption) ?rest5
  case hy5 => (intro w9 hSw; (try dsimp only at hSw); go_simp; try with_reducible rfl)
  try simp only [Act.put, List.setIfInBounds_toArray, List.set_cons_zero, List.set_cons_succ]
  refine oneL (i := 6) (by kernel_rfl) rfl (fun K hK => ?_)
  (go_simp; go_at_call 149; (with_reducible refine (HU.out _ (Below.refl _ _).drew).mono ?_); rintro e2 w2 ⟨v2, rfl, hv2, hB2⟩; have HB2 := Lib.hid (bel_tr (Below.refl w.heap.size w).drew hB2); have HV2 := Lib.hid hv2; clear hv2 hB2)
  refine hK.out _ _ ?_ (fun hHeld2 => ?_)
  · exact HKP.out _ HB2.out
  clear hK K hHeld
  obtain ⟨K2, rv2, hM, hCK⟩ := HC.out w2 v2 HB2.out HV2.out
  have HBH := Lib.hid (behindN (w := w2) hM HT.out.1 HT.out.2 hCK)
  clear hM hCK
  refine oneL (i := 7) (by kernel_rfl) rfl (fun K hK => ?_)
  cases o with
  | none =>
    (go_simp; go_at_call 151; (with_reducible refine HBH.out.mono ?_); intro e3 w3 h3; obtain ⟨⟨u, pv, rfl⟩, hB3⟩ := TXP.n h3; have HB3 := Lib.hid (bel_tr HB2.out hB3); clear h3 hB3)
    exact ⟨rfl, ⟨u, pv, rfl⟩, HB3.out⟩
  | some s =>
    (go_simp; go_at_call 151; (with_reducible refine HBH.out.mono ?_); intro e3 w3 h3; obtain ⟨rfl, hB3⟩ := TXP.s h3; have HB3 := Lib.hid (bel_tr HB2.out hB3); clear h3 hB3)
    refine hK.out _ _ ?_ (fun hHeld3 => ?_)
    · exact HKP.out _ HB3.out
    clear hK K hHeld2
    refine lastL (i := 8) (by kernel_rfl) rfl (by kernel_rfl) (by kernel_rfl) (fun K hK => ?_)
    go_simp
    refine hK.out _ _ ?_
    clear hK K hHeld3
    go_wp2_with fail
    go_ret
    exact ⟨rfl, HB3.out⟩
set_option maxRecDepth 100000 in
set_option maxHeartbeats 8000000 in
theorem err185 {S : Nat → Prop} {p : Nat} {w : World} {k i c : Int} {t : Bs} {b : Dt} {bl : Option Addr} {bn bc : Nat} {cl : Option Addr} {cn cc : Nat} {l : Option Addr} {n cap : Nat} {k2 i2 c2 : Int} {t2 : Bs} {b2 : Dt} {cs2 : List Int} {ks : Eo} {o : Option Bs} (hW : Blk w p (V11 k i c t b bl bn bc cl cn cc l n cap)) (hF : EoAt S w (.cons k2 i2 c2 t2 b2 cs2 ks .nil) l n cap)
    (ht : t.length ≤ 65535) (ho : ∀ s, o = some s → s.length ≤ 140737488355328) (hK : ∀ wx v, Below w.heap.size w wx → EVAt S (fun _ => False) wx ⟨k2, i2, c2, t2, b2, cs2, ks⟩ v → ∃ K rv, MethE v K rv ∧ ∀ wy, Below wx.heap.size wx wy → Calls Tryz.prog K #[rv] wy (TXP o wy)) :
    Calls Tryz.prog 185 #[.pointer (some ⟨p, 0, none⟩)] w (TXP (o.map (fun s => t ++ 58 :: 32 :: s)) w) := by
  have HKP := Lib.hid (show ∀ wx, Below w.heap.size w wx → wx.cell? ⟨p, 3, none⟩ = some (.string ⟨t.toArray⟩) from fun wx hx => (hW.below hx).cell 3 rfl)
  have HU := Lib.hid (fun (wx : World) (hx : Below w.heap.size w wx) => unw187 (S := S) (N := fun _ => False) (hW.below hx) (hF.same (w' := wx) (fun x _ hl => hx.block x hl) (fun x hx' _ => hx')) (fun x h => h.elim))
  have HC := Lib.hid hK
  have HT := Lib.hid (And.intro ht ho)
  clear hW hF ht ho hK
  go_enter Tryz.func185, Tryz.ntmps185
  go_upto_region 1 with fail
  refine wp_region_L (S := fun wx : World => wx.cell? ⟨p, 3, none⟩ = some (.string ⟨t.toArray⟩)) (by kernel_rfl) ?_ (fun hHeld => ?_)
  · exact HKP.out _ (Below.refl _ _).drew

  refine takeL (i := 0) 1 (v := ?va0) rfl (by kernel_rfl) (by kernel_rfl) (by kernel_rfl) (by kernel_rfl) (by kernel_rfl) (fun _ _ _ h => h) (Or.inl ⟨by rfl, ?hy0⟩) (by assumption) ?rest0
  case hy0 => (intro w9 hSw; (try dsimp only at hSw); go_simp; try with_reducible rfl)
  try simp only [Act.put, List.setIfInBounds_toArray, List.set_cons_zero, List.set_cons_succ]
  refine takeL (i := 1) 2 (v := ?va1) rfl (by kernel_rfl) (by kernel_rfl) (by kernel_rfl) (by kernel_rfl) (by kernel_rfl) (fun _ _ _ h => h) (Or.inl ⟨by rfl, ?hy1⟩) (by assumption) ?rest1
  case hy1 => (intro w9 hSw; (try dsimp only at hSw); go_simp; try with_reducible rfl)
  try simp only [Act.put, List.setIfInBounds_toArray, List.set_cons_zero, List.set_cons_succ]
  refine takeL (i := 2) 3 (v := ?va2) rfl (by kernel_rfl) (by kernel_rfl) (by kernel_rfl) (by kernel_rfl) (by kernel_rfl) (fun _ _ _ h => h) (Or.inl ⟨by rfl, ?hy2⟩) (by assumption) ?rest2
  case hy2 => (intro w9 hSw; (try dsimp only at hSw); go_simp; try with_reducible rfl)
  try simp only [Act.put, List.setIfInBounds_toArray, List.set_cons_zero, List.set_cons_succ]
  refine takeL (i := 3) 4 (v := ?va3) rfl (by kernel_rfl) (by kernel_rfl) (by kernel_rfl) (by kernel_rfl) (by kernel_rfl) (fun _ _ _ h => h) (Or.inl ⟨by rfl, ?hy3⟩) (by assumption) ?rest3
  case hy3 => (intro w9 hSw; (try dsimp only at hSw); go_simp; try with_reducible rfl)
  try simp only [Act.put, List.setIfInBounds_toArray, List.set_cons_zero, List.set_cons_succ]
  refine takeL (i := 4) 7 (v := ?va4) rfl (by kernel_rfl) (by kernel_rfl) (by kernel_rfl) (by kernel_rfl) (by kernel_rfl) (fun _ _ _ h => h) (Or.inl ⟨by rfl, ?hy4⟩) (by assumption) ?rest4
  case hy4 => (intro w9 hSw; (try dsimp only at hSw); go_simp; try with_reducible rfl)
  try simp only [Act.put, List.setIfInBounds_toArray, List.set_cons_zero, List.set_cons_succ]
  refine takeL (i := 5) 6 (v := ?va5) rfl (by kernel_rfl) (by kernel_rfl) (by kernel_rfl) (by kernel_rfl) (by kernel_rfl) (fun _ _ _ h => h) (Or.inl ⟨by rfl, ?hy5⟩) (by assumption) ?rest5
  case hy5 => (intro w9 hSw; (try dsimp only at hSw); go_simp; try with_reducible rfl)
  try simp only [Act.put, List.setIfInBounds_toArray, List.set_cons_zero, List.set_cons_succ]
  refine oneL (i := 6) (by kernel_rfl) rfl (fun K hK => ?_)
  (go_simp; go_at_call 187; (with_reducible refine (HU.out _ (Below.refl _ _).drew).mono ?_); rintro e2 w2 ⟨v2, rfl, hv2, hB2⟩; have HB2 := Lib.hid (bel_tr (Below.refl w.heap.size w).drew hB2); have HV2 := Lib.hid hv2; clear hv2 hB2)
  refine hK.out _ _ ?_ (fun hHeld2 => ?_)
  · exact HKP.out _ HB2.out
  clear hK K hHeld
  obtain ⟨K2, rv2, hM, hCK⟩ := HC.out w2 v2 HB2.out HV2.out
  have HBH := Lib.hid (behindN (w := w2) hM HT.out.1 HT.out.2 hCK)
  clear hM hCK
  refine oneL (i := 7) (by kernel_rfl) rfl (fun K hK => ?_)
  cases o with
  | none =>
    (go_simp; go_at_call 151; (with_reducible refine HBH.out.mono ?_); intro e3 w3 h3; obtain ⟨⟨u, pv, rfl⟩, hB3⟩ := TXP.n h3; have HB3 := Lib.hid (bel_tr HB2.out hB3); clear h3 hB3)
    exact ⟨rfl, ⟨u, pv, rfl⟩, HB3.out⟩
  | some s =>
    (go_simp; go_at_call 151; (with_reducible refine HBH.out.mono ?_); intro e3 w3 h3; obtain ⟨rfl, hB3⟩ := TXP.s h3; have HB3 := Lib.hid (bel_tr HB2.out hB3); clear h3 hB3)
    refine hK.out _ _ ?_ (fun hHeld3 => ?_)
    · exact HKP.out _ HB3.out
    clear hK K hHeld2
    refine lastL (i := 8) (by kernel_rfl) rfl (by kernel_rfl) (by kernel_rfl) (fun K hK => ?_)
    go_simp
    refine hK.out _ _ ?_
    clear hK K hHeld3
    go_wp2_with fail
    go_ret
    exact ⟨rfl, HB3.out⟩
set_option maxRecDepth 100000 in
set_option maxHeartbeats 8000000 in
theorem err185n {p : Nat} {w : World} {k i c : Int} {t : Bs} {b : Dt} {bl : Option Addr} {bn bc : Nat} {cl : Option Addr} {cn cc : Nat} {l : Option Addr} {cap : Nat} (hW : Blk w p (V11 k i c t b bl bn bc cl cn cc l 0 cap)) :
    Calls Tryz.prog 185 #[.pointer (some ⟨p, 0, none⟩)] w (TXP (some t) w) := by
  have HK := Lib.hid (show ∀ wx, Below w.heap.size w wx → wx.cell? ⟨p, 3, none⟩ = some (.string ⟨t.toArray⟩) from fun wx hx => (hW.below hx).cell 3 rfl)
  have HU := Lib.hid (fun (wx : World) (hx : Below w.heap.size w wx) => unw187n (hW.below hx))
  clear hW
  go_enter Tryz.func185, Tryz.ntmps185
  go_upto_region 1 with fail
  go_region_held3 (fun wx : World => wx.cell? ⟨p, 3, none⟩ = some (.string ⟨t.toArray⟩))
    (first | exact HK.out _ (Below.refl _ _) | exact HK.out _ (Below.refl _ _).drew | exact HK.out _ HB2.out | exact HK.out _ HB3.out)
    (first
      | (go_simp; go_at_call 187; (with_reducible refine (HU.out _ (Below.refl _ _).drew).mono ?_); rintro e2 w2 ⟨rfl, rfl⟩; have HB2 := Lib.hid ((Below.refl w.heap.size w).drew); have HC := Lib.hid (behindNil (.string ⟨t.toArray⟩) w.drew))
      | (go_simp; go_at_call 151; (with_reducible refine HC.out.mono ?_); rintro e3 w3 ⟨rfl, hB⟩; have HB3 := Lib.hid (bel_tr HB2.out hB); clear hB))
  all_goals
    go_wp2_with fail
    go_ret
    exact ⟨rfl, HB3.out⟩
end Go.Proofs.YtbldidiibkcelaaGreatDoor

