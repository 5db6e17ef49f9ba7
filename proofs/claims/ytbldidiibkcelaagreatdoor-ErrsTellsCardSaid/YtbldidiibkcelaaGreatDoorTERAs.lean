/-
  The document's As (walk). Not a statement of the seat.
-/
import Derived.Test.YtbldidiibkcelaaGreatDoorTEAsFace
namespace Go.Proofs.YtbldidiibkcelaaGreatDoor
open Go.RowKit

end Go.Proofs.YtbldidiibkcelaaGreatDoor

/-
  The document's Unwrap (walk). Not a statement of the seat.
-/
namespace Go.Proofs.YtbldidiibkcelaaGreatDoor
open Go.RowKit

set_option maxRecDepth 100000 in
set_option maxHeartbeats 16000000 in
theorem runw28 {S : Nat → Prop} {k i c : Int} {t : Bs} {b : Dt} {cs : List Int} {kids : Eo} {bl : Option Addr} {bn bc : Nat} {cl : Option Addr} {cn cc : Nat} {l : Option Addr} {n cap : Nat} {w : World} (hE : ErAt S w ⟨k, i, c, t, b, cs, kids⟩ bl bn bc cl cn cc l n cap) (hS : ∀ x, S x → x < w.heap.size) (hok : okS ⟨k, i, c, t, b, cs, kids⟩) :
    Calls Tryz.prog 28 #[vE k i c t b bl bn bc cl cn cc l n cap] w (CLE (unwE ⟨k, i, c, t, b, cs, kids⟩).k (unwE ⟨k, i, c, t, b, cs, kids⟩).i (unwE ⟨k, i, c, t, b, cs, kids⟩).c (unwE ⟨k, i, c, t, b, cs, kids⟩).t (unwE ⟨k, i, c, t, b, cs, kids⟩).b (unwE ⟨k, i, c, t, b, cs, kids⟩).cs (unwE ⟨k, i, c, t, b, cs, kids⟩).l w) := by
  obtain ⟨⟨hP, hZ⟩, hB, hsz⟩ := clw2_facts w k i c t b bl bn bc cl cn cc l n cap
  have HH := Lib.hid (fun (wx : World) => rhasN k 4 wx)
  obtain ⟨z, hz⟩ : ∃ z, z = w.heap.size + 1 := ⟨_, rfl⟩
  obtain ⟨p, hp⟩ : ∃ q, q = w.heap.size := ⟨_, rfl⟩
  have hh : hasK k 4 = decide (k = 3 ∨ k = 8) := by
    by_cases h3 : k = 3 <;> by_cases h8 : k = 8 <;> simp [hasK, h3, h8]
  have hlen : kids.len = n := hE.2.2.len
  have hnb : n ≤ 9223372036854775807 := by
    obtain ⟨vs, ⟨h1, _⟩, _⟩ := hE.2.2
    have h2 := h1.le
    have h3 := h1.max
    unfold maxLen at h3
    omega
  obtain ⟨u, hu⟩ : ∃ x, x = (unwE ⟨k, i, c, t, b, cs, kids⟩) := ⟨_, rfl⟩
  rw [← hu]
  unfold vE
  by_cases hw : (k = 3 ∨ k = 8) ∧ 0 < n
  · obtain ⟨hk, hn⟩ := hw
    cases kids with
    | nil => exact absurd hlen (by have : Eo.len .nil = 0 := rfl; omega)
    | cons k2 i2 c2 t2 b2 cs2 ks r2 =>
      obtain ⟨bb, off, bl2, bn2, bc2, cl2, cn2, cc2, a2, n2, cp2, rfl, hkF, he, _, hjn⟩ := EoAt.elem (dn := .nil) (show EoAt S (clw2 w k i c t b bl bn bc cl cn cc l n cap) (.cons k2 i2 c2 t2 b2 cs2 ks r2) l n cap from hE.2.2.same (fun x _ hl => hB.block x hl) (fun x hx _ => hx))
      rw [show Eo.len .nil = 0 from rfl] at he
      have e0 := he 0 (by omega)
      have e1 := he 1 (by omega)
      have e2 := he 2 (by omega)
      have e3 := he 3 (by omega)
      have e4 := he 4 (by omega)
      have e5 := he 5 (by omega)
      have e6 := he 6 (by omega)
      have e7 := he 7 (by omega)
      have e8 := he 8 (by omega)
      have e9 := he 9 (by omega)
      have e10 := he 10 (by omega)
      simp only [V11, List.getElem?_cons_zero, List.getElem?_cons_succ, Nat.add_zero, Nat.zero_mul] at e0 e1 e2 e3 e4 e5 e6 e7 e8 e9 e10
      have h4 := hok.2.2.2
      have HC := Lib.hid (ecopyG ks k2 i2 c2 t2 b2 cs2 bl2 bn2 bc2 cl2 cn2 cc2 a2 n2 cp2 S (clw2 w k i c t b bl bn bc cl cn cc (some ⟨bb, off, none⟩) n cap) hkF (fun x hx => Nat.lt_of_lt_of_le (hS x hx) hB.size) h4.1 h4.2.1 h4.2.2.1 h4.2.2.2.1)
      have HU := Lib.hid (show u = ⟨k2, i2, c2, t2, b2, cs2, ks⟩ by rw [hu]; unfold unwE; dsimp only; rw [if_pos hk])
      rw [show hasK k 4 = true by rw [hh]; simp [hk]] at HH
      have hni : (0 : Int) < (n : Int) := by omega
      unfold vE at HC
      clear hE hS hok hh hlen hu hk hkF he h4 hn
      go_enter Tryz.func28, Tryz.ntmps28
      go_upto_region 1 with (fail)
      change Code.wp _ _ _ _ (clw2 w k i c t b bl bn bc cl cn cc (some ⟨bb, off, none⟩) n cap)
      generalize clw2 w k i c t b bl bn bc cl cn cc (some ⟨bb, off, none⟩) n cap = w1 at *
      rw [← hp] at hP
      rw [← hz] at hZ
      rw [← hz, ← hp]
      have HB := Lib.hid hB
      have HZ := Lib.hid hZ
      have HLT := Lib.hid (show w.heap.size ≤ z ∧ z < w1.heap.size from by omega)
      have x0 := hP.cell 0 rfl
      have x10 := hP.cell 10 rfl
      clear hP hZ hB hsz hp hz
      go_wp2_with (first
        | (go_at_call 20; (with_reducible refine (HH.out _).mono ?_); rintro r2 w2 ⟨rfl, rfl⟩)
        | (go_at_call 25; (with_reducible refine HC.out.mono ?_); intro r4 w4 h4; obtain ⟨bl3, bn3, bc3, cl3, cn3, cc3, l3, n3, cap3, vs3, rfl, hF3, hR3, hT3, hB4⟩ := h4
           have HZ9 := Lib.hid (HZ.out.below hB4)
           have HR := Lib.hid (And.intro hF3 (And.intro hR3 (And.intro hT3 hB4)))
           have c0 := HZ9.out.cell 0 rfl; have f0 := HZ9.out.free 0 (by simp [Z11]); have c1 := HZ9.out.cell 1 rfl; have f1 := HZ9.out.free 1 (by simp [Z11]); have c2 := HZ9.out.cell 2 rfl; have f2 := HZ9.out.free 2 (by simp [Z11]); have c3 := HZ9.out.cell 3 rfl; have f3 := HZ9.out.free 3 (by simp [Z11]); have c4 := HZ9.out.cell 4 rfl; have f4 := HZ9.out.free 4 (by simp [Z11]); have c5 := HZ9.out.cell 5 rfl; have f5 := HZ9.out.free 5 (by simp [Z11]); have c6 := HZ9.out.cell 6 rfl; have f6 := HZ9.out.free 6 (by simp [Z11]); have c7 := HZ9.out.cell 7 rfl; have f7 := HZ9.out.free 7 (by simp [Z11]); have c8 := HZ9.out.cell 8 rfl; have f8 := HZ9.out.free 8 (by simp [Z11]); have c9 := HZ9.out.cell 9 rfl; have f9 := HZ9.out.free 9 (by simp [Z11]); have c10 := HZ9.out.cell 10 rfl; have f10 := HZ9.out.free 10 (by simp [Z11])
           unfold vE
           clear hF3 hR3 hT3 hB4))
      rw [HU.out]
      exact ce_fin Tryz.results28 rfl HLT.out HB.out HZ9.out HR.out.1 HR.out.2.1 HR.out.2.2.1 HR.out.2.2.2
  · have HU := Lib.hid (show u = Et.zero by
      rw [hu]
      unfold unwE
      dsimp only
      split
      · rename_i hk
        have hn : n = 0 := by
          rcases Nat.eq_zero_or_pos n with h | h
          · exact h
          · exact absurd ⟨hk, h⟩ hw
        have h0 := len0 (show kids.len = 0 by omega)
        rw [h0]
      · rfl)
    have hc : hasK k 4 = false ∨ (hasK k 4 = true ∧ n = 0) := by
      rw [hh]
      by_cases hk : k = 3 ∨ k = 8
      · refine .inr ⟨by simp [hk], ?_⟩
        rcases Nat.eq_zero_or_pos n with h | h
        · exact h
        · exact absurd ⟨hk, h⟩ hw
      · exact .inl (by simp [hk])
    generalize hasK k 4 = h at *
    clear hE hS hok hh hlen hu hw
    go_enter Tryz.func28, Tryz.ntmps28
    go_upto_region 1 with (fail)
    change Code.wp _ _ _ _ (clw2 w k i c t b bl bn bc cl cn cc l n cap)
    generalize clw2 w k i c t b bl bn bc cl cn cc l n cap = w1 at *
    rw [← hp] at hP
    rw [← hz] at hZ
    rw [← hz, ← hp]
    have HB := Lib.hid hB
    have HZ := Lib.hid hZ
    have HLT := Lib.hid (show w.heap.size ≤ z ∧ z < w1.heap.size from by omega)
    have x0 := hP.cell 0 rfl
    have x10 := hP.cell 10 rfl
    have c0 := HZ.out.cell 0 rfl; have f0 := HZ.out.free 0 (by simp [Z11]); have c1 := HZ.out.cell 1 rfl; have f1 := HZ.out.free 1 (by simp [Z11]); have c2 := HZ.out.cell 2 rfl; have f2 := HZ.out.free 2 (by simp [Z11]); have c3 := HZ.out.cell 3 rfl; have f3 := HZ.out.free 3 (by simp [Z11]); have c4 := HZ.out.cell 4 rfl; have f4 := HZ.out.free 4 (by simp [Z11]); have c5 := HZ.out.cell 5 rfl; have f5 := HZ.out.free 5 (by simp [Z11]); have c6 := HZ.out.cell 6 rfl; have f6 := HZ.out.free 6 (by simp [Z11]); have c7 := HZ.out.cell 7 rfl; have f7 := HZ.out.free 7 (by simp [Z11]); have c8 := HZ.out.cell 8 rfl; have f8 := HZ.out.free 8 (by simp [Z11]); have c9 := HZ.out.cell 9 rfl; have f9 := HZ.out.free 9 (by simp [Z11]); have c10 := HZ.out.cell 10 rfl; have f10 := HZ.out.free 10 (by simp [Z11])
    clear hP hZ hB hsz hp hz
    rcases hc with rfl | ⟨rfl, rfl⟩
    all_goals
      go_wp2_with (go_at_call 20; (with_reducible refine (HH.out _).mono ?_); rintro r2 w2 ⟨rfl, rfl⟩)
      rw [HU.out]
      exact ce_fin (k := 0) (i := 0) (c := 0) (t := []) (b := Dt.zero) (cs := []) (kids := .nil) (bl := none) (bn := 0) (bc := 0) (cl := none) (cn := 0) (cc := 0) (l := none) (n := 0) (cap := 0) (vs := []) Tryz.results28 rfl HLT.out HB.out HZ.out (FoAt.nil _ _) (Row.nil _ _ _) ⟨Row.nil _ _ _, rfl⟩ (Below.refl _ _)
end Go.Proofs.YtbldidiibkcelaaGreatDoor

