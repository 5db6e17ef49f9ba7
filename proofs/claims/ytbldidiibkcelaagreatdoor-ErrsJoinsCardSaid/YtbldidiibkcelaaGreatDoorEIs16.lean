/-
  Is of any two errors (walk). Not a statement of the seat.
-/
import Derived.Test.YtbldidiibkcelaaGreatDoorEWalk7
namespace Go.Proofs.YtbldidiibkcelaaGreatDoor
open Go.RowKit

theorem valN {k i c : Int} {t : Bs} {b : Dt} {bl : Option Addr} {bn bc : Nat} {cl : Option Addr} {cn cc : Nat} {l : Option Addr} {n cap : Nat} {w : World} (h : k = 0) : Calls Tryz.prog 50 #[vE k i c t b bl bn bc cl cn cc l n cap] w (fun e w' => e = .returned .nilIface ∧ Below w.heap.size w w') := by
  refine (evalueN k i c t b bl bn bc cl cn cc l n cap w).mono ?_
  rintro e w' ⟨rfl, hB, _⟩
  exact ⟨by subst h; rfl, hB⟩
theorem vErr_if {k c : Int} {t : Bs} {cl : Option Addr} {cn cc q p : Nat} (h1 : 1 ≤ k) (h2 : k ≤ 10) : ∃ u x, vErr k c t cl cn cc q p = .iface u x := by
  rcases vErr_iface k c t cl cn cc q p with h | h
  · rcases kinds_cases k with rfl | rfl | rfl | rfl | rfl | rfl | rfl | rfl | rfl | rfl | ⟨z1, z2, z3, z4, z5, z6, z7, z8, z9, z10⟩
    all_goals first | omega | (exact absurd h (by simp [vErr]))
  · exact h
theorem valI {S N : Nat → Prop} {k i c : Int} {t : Bs} {b : Dt} {cs : List Int} {kids : Eo} {bl : Option Addr} {bn bc : Nat} {cl : Option Addr} {cn cc : Nat} {l : Option Addr} {n cap : Nat} {w : World} (h1 : 1 ≤ k) (h2 : k ≤ 10) (hE : ErAt S w ⟨k, i, c, t, b, cs, kids⟩ bl bn bc cl cn cc l n cap) (hf : ∀ x, N x → x < w.heap.size) :
    Calls Tryz.prog 50 #[vE k i c t b bl bn bc cl cn cc l n cap] w (fun e w' => ∃ u x, e = .returned (.iface u x) ∧ EVAt S N w' ⟨k, i, c, t, b, cs, kids⟩ (.iface u x) ∧ Below w.heap.size w w') := by
  refine (valueEV hE hf).mono ?_
  rintro e w' ⟨v, rfl, hv, hB⟩
  obtain ⟨bl, bn, bc, cl, cn, cc, l, n, cap, q, p, hve, hr⟩ := hv
  obtain ⟨u, x, hu⟩ := vErr_if (c := c) (t := t) (cl := cl) (cn := cn) (cc := cc) (q := q) (p := p) h1 h2
  obtain rfl : v = .iface u x := hve.trans hu
  exact ⟨u, x, rfl, ⟨bl, bn, bc, cl, cn, cc, l, n, cap, q, p, hve, hr⟩, hB⟩
theorem valT {k i c : Int} {t : Bs} {b : Dt} {bl : Option Addr} {bn bc : Nat} {cl : Option Addr} {cn cc : Nat} {l : Option Addr} {n cap : Nat} {w : World} (h1 : 1 ≤ k) (h2 : k ≤ 10) :
    Calls Tryz.prog 50 #[vE k i c t b bl bn bc cl cn cc l n cap] w (fun e w' => ∃ u x, e = .returned (.iface u x) ∧ (∃ q p, vErr k c t cl cn cc q p = .iface u x) ∧ Below w.heap.size w w') := by
  refine (evalueN k i c t b bl bn bc cl cn cc l n cap w).mono ?_
  rintro e w' ⟨rfl, hB, _⟩
  obtain ⟨u, x, hu⟩ := vErr_if (c := c) (t := t) (cl := cl) (cn := cn) (cc := cc) (q := w.heap.size) (p := w.heap.size + 1) h1 h2
  exact ⟨u, x, by rw [hu], ⟨_, _, hu⟩, hB⟩
theorem kal {N : Nat → Prop} {w x : World} (h : Kept N w x) (o : Obj) : Kept N w (x.alloc o) := h.alloc o
theorem kpt {N : Nat → Prop} {w x : World} {v : Nat} {u : Value} (h : Kept N w x) (hn : N v) : Kept N w (x.setCell ⟨v, 0, none⟩ u) := h.put (p := ⟨v, 0, none⟩) u (fun _ => hn)
set_option maxRecDepth 100000 in
set_option maxHeartbeats 16000000 in
theorem is16nn {k i c : Int} {t : Bs} {b : Dt} {bl : Option Addr} {bn bc : Nat} {cl : Option Addr} {cn cc : Nat} {l : Option Addr} {n cap : Nat} {k' i' c' : Int} {t' : Bs} {b' : Dt} {bl' : Option Addr} {bn' bc' : Nat} {cl' : Option Addr} {cn' cc' : Nat} {l' : Option Addr} {n' cap' : Nat} {w : World}
    (hk : k = 0) (hk' : k' = 0) :
    Calls Tryz.prog 16 #[vE k i c t b bl bn bc cl cn cc l n cap, vE k' i' c' t' b' bl' bn' bc' cl' cn' cc' l' n' cap'] w (fun e w' => e = .returned (.tuple #[.bool ((true, 0) : Bool × Int).1, .int .i64 ((true, 0) : Bool × Int).2]) ∧ Below w.heap.size w w') := by
  subst hk
  subst hk'
  obtain ⟨h1, h2, hB, hz9⟩ := ebox2_facts w 0 i c t b bl bn bc cl cn cc l n cap 0 i' c' t' b' bl' bn' bc' cl' cn' cc' l' n' cap'
  clear hz9
  unfold vE
  go_enter Tryz.func16, Tryz.ntmps16
  go_upto_region 1 with (fail)
  change Code.wp _ _ _ _ (ebox2 w 0 i c t b bl bn bc cl cn cc l n cap 0 i' c' t' b' bl' bn' bc' cl' cn' cc' l' n' cap')
  generalize ebox2 w 0 i c t b bl bn bc cl cn cc l n cap 0 i' c' t' b' bl' bn' bc' cl' cn' cc' l' n' cap' = w1 at *
  obtain ⟨q, hq⟩ : ∃ x, x = w.heap.size + 1 := ⟨_, rfl⟩
  obtain ⟨p, hp⟩ : ∃ x, x = w.heap.size := ⟨_, rfl⟩
  rw [← hq] at h2
  rw [← hp] at h1
  rw [← hq, ← hp]
  have HB := Lib.hid hB
  have HK := Lib.hid (show ∀ wx, Below w1.heap.size w1 wx → ((wx.cell? ⟨p, 0, none⟩ = some (.int .i64 0) ∧ wx.cell? ⟨p, 1, none⟩ = some (.int .i64 i) ∧ wx.cell? ⟨p, 2, none⟩ = some (.int .i64 c) ∧ wx.cell? ⟨p, 3, none⟩ = some (.string ⟨t.toArray⟩) ∧ wx.cell? ⟨p, 4, none⟩ = some (.int .i64 b.k) ∧ wx.cell? ⟨p, 5, none⟩ = some (.int .i64 b.i) ∧ wx.cell? ⟨p, 6, none⟩ = some (.int .u64 b.b) ∧ wx.cell? ⟨p, 7, none⟩ = some (.string ⟨b.t.toArray⟩) ∧ wx.cell? ⟨p, 8, none⟩ = some (.slice bl bn bc) ∧ wx.cell? ⟨p, 9, none⟩ = some (.slice cl cn cc) ∧ wx.cell? ⟨p, 10, none⟩ = some (.slice l n cap)) ∧ (wx.cell? ⟨q, 0, none⟩ = some (.int .i64 0) ∧ wx.cell? ⟨q, 1, none⟩ = some (.int .i64 i') ∧ wx.cell? ⟨q, 2, none⟩ = some (.int .i64 c') ∧ wx.cell? ⟨q, 3, none⟩ = some (.string ⟨t'.toArray⟩) ∧ wx.cell? ⟨q, 4, none⟩ = some (.int .i64 b'.k) ∧ wx.cell? ⟨q, 5, none⟩ = some (.int .i64 b'.i) ∧ wx.cell? ⟨q, 6, none⟩ = some (.int .u64 b'.b) ∧ wx.cell? ⟨q, 7, none⟩ = some (.string ⟨b'.t.toArray⟩) ∧ wx.cell? ⟨q, 8, none⟩ = some (.slice bl' bn' bc') ∧ wx.cell? ⟨q, 9, none⟩ = some (.slice cl' cn' cc') ∧ wx.cell? ⟨q, 10, none⟩ = some (.slice l' n' cap'))) from fun wx hx => by
    have a := h1.below hx
    have c := h2.below hx
    exact ⟨⟨a.cell 0 rfl, a.cell 1 rfl, a.cell 2 rfl, a.cell 3 rfl, a.cell 4 rfl, a.cell 5 rfl, a.cell 6 rfl, a.cell 7 rfl, a.cell 8 rfl, a.cell 9 rfl, a.cell 10 rfl⟩, ⟨c.cell 0 rfl, c.cell 1 rfl, c.cell 2 rfl, c.cell 3 rfl, c.cell 4 rfl, c.cell 5 rfl, c.cell 6 rfl, c.cell 7 rfl, c.cell 8 rfl, c.cell 9 rfl, c.cell 10 rfl⟩⟩)
  have HC1 := Lib.hid (fun (wx : World) => valN (i := i) (c := c) (t := t) (b := b) (bl := bl) (bn := bn) (bc := bc) (cl := cl) (cn := cn) (cc := cc) (l := l) (n := n) (cap := cap) (w := wx) rfl)
  have HC2 := Lib.hid (fun (wx : World) => valN (i := i') (c := c') (t := t') (b := b') (bl := bl') (bn := bn') (bc := bc') (cl := cl') (cn := cn') (cc := cc') (l := l') (n := n') (cap := cap') (w := wx) rfl)
  unfold vE at HC1 HC2
  have n1 := fun W => nw1 W
  have n2 := fun W => nw2 W
  have d1 := fun W => nd1 W
  have d2 := fun W => nd2 W
  have d3 := fun W => nd3 W
  have d4 := fun W => nd4 W
  clear h1 h2 hB hq hp
  go_region_held3 (fun wx : World => (wx.cell? ⟨p, 0, none⟩ = some (.int .i64 0) ∧ wx.cell? ⟨p, 1, none⟩ = some (.int .i64 i) ∧ wx.cell? ⟨p, 2, none⟩ = some (.int .i64 c) ∧ wx.cell? ⟨p, 3, none⟩ = some (.string ⟨t.toArray⟩) ∧ wx.cell? ⟨p, 4, none⟩ = some (.int .i64 b.k) ∧ wx.cell? ⟨p, 5, none⟩ = some (.int .i64 b.i) ∧ wx.cell? ⟨p, 6, none⟩ = some (.int .u64 b.b) ∧ wx.cell? ⟨p, 7, none⟩ = some (.string ⟨b.t.toArray⟩) ∧ wx.cell? ⟨p, 8, none⟩ = some (.slice bl bn bc) ∧ wx.cell? ⟨p, 9, none⟩ = some (.slice cl cn cc) ∧ wx.cell? ⟨p, 10, none⟩ = some (.slice l n cap)) ∧ (wx.cell? ⟨q, 0, none⟩ = some (.int .i64 0) ∧ wx.cell? ⟨q, 1, none⟩ = some (.int .i64 i') ∧ wx.cell? ⟨q, 2, none⟩ = some (.int .i64 c') ∧ wx.cell? ⟨q, 3, none⟩ = some (.string ⟨t'.toArray⟩) ∧ wx.cell? ⟨q, 4, none⟩ = some (.int .i64 b'.k) ∧ wx.cell? ⟨q, 5, none⟩ = some (.int .i64 b'.i) ∧ wx.cell? ⟨q, 6, none⟩ = some (.int .u64 b'.b) ∧ wx.cell? ⟨q, 7, none⟩ = some (.string ⟨b'.t.toArray⟩) ∧ wx.cell? ⟨q, 8, none⟩ = some (.slice bl' bn' bc') ∧ wx.cell? ⟨q, 9, none⟩ = some (.slice cl' cn' cc') ∧ wx.cell? ⟨q, 10, none⟩ = some (.slice l' n' cap')))
    (first | exact HK.out _ (Below.refl _ _) | exact HK.out _ (by with_reducible repeat (first | exact Below.refl _ _ | exact HB3.out | exact HB2.out | refine bel_al ?_ _ | refine bel_dr ?_ | refine bel_set ?_ ?_ _ | omega)))
    (first
      | (go_simp; go_at_call 50; (with_reducible refine (HC1.out (w1.drew)).mono ?_); rintro eA wA ⟨rfl, hBA⟩; have HB2 := Lib.hid (show Below w1.heap.size w1 wA from bel_tr ((Below.refl _ w1).drew) hBA); have hsA := HB2.out.size; clear hBA)
      | (go_simp; go_at_call 50; (with_reducible refine (HC1.out ((w1.alloc (.cells #[.nilIface] 68)).drew)).mono ?_); rintro eA wA ⟨rfl, hBA⟩; have HB2 := Lib.hid (show Below w1.heap.size w1 wA from bel_tr (bel_dr (bel_al (Below.refl _ w1) _)) hBA); have qah := (((Blk.new w1 #[.nilIface] 68).below (Below.refl _ _).drew).below hBA : Blk wA w1.heap.size [.nilIface]); have qa0 := qah.cell 0 rfl; have qa1 := qah.free 0 (by simp); have qa2 := qah.1; have QA := Lib.hid qah; clear qah; have hsA := HB2.out.size; clear hBA)
      | (go_simp; go_at_call 50; (with_reducible refine (HC1.out (((w1.alloc (.cells #[.nilIface] 68)).alloc (.cells #[.nilIface] 68)).drew)).mono ?_); rintro eA wA ⟨rfl, hBA⟩; have HB2 := Lib.hid (show Below w1.heap.size w1 wA from bel_tr (bel_dr (bel_al (bel_al (Below.refl _ w1) _) _)) hBA); have qah := ((((Blk.new w1 #[.nilIface] 68).alloc _).below (Below.refl _ _).drew).below hBA : Blk wA w1.heap.size [.nilIface]); have qa0 := qah.cell 0 rfl; have qa1 := qah.free 0 (by simp); have qa2 := qah.1; have QA := Lib.hid qah; clear qah; have qbh := (((Blk.new' (w := w1.alloc (.cells #[.nilIface] 68)) (x := .nilIface) (t := 68) (v := w1.heap.size + 1) (by simp)).below (Below.refl _ _).drew).below hBA : Blk wA (w1.heap.size + 1) [.nilIface]); have qb0 := qbh.cell 0 rfl; have qb1 := qbh.free 0 (by simp); have qb2 := qbh.1; have QB := Lib.hid qbh; clear qbh; have hsA := HB2.out.size; clear hBA)
      | (go_simp; go_at_call 50; (with_reducible refine (HC2.out (wA)).mono ?_); rintro eB wB ⟨rfl, hBB⟩; have HB3 := Lib.hid (show Below w1.heap.size w1 wB from bel_tr HB2.out (bel_tr (Below.refl _ wA) hBB)); have rah := QA.out.below (bel_tr (Below.refl _ wA) hBB); have ra0 := rah.cell 0 rfl; have ra1 := rah.free 0 (by simp); have ra2 := rah.1; have RA := Lib.hid rah; clear rah; have rbh := QB.out.below (bel_tr (Below.refl _ wA) hBB); have rb0 := rbh.cell 0 rfl; have rb1 := rbh.free 0 (by simp); have rb2 := rbh.1; have RB := Lib.hid rbh; clear rbh; have hsB := HB3.out.size; clear hBB qa0 qa1 qb0 qb1)
      | (go_simp; go_at_call 50; (with_reducible refine (HC2.out ((wA.alloc (.cells #[.nilIface] 68)))).mono ?_); rintro eB wB ⟨rfl, hBB⟩; have HB3 := Lib.hid (show Below w1.heap.size w1 wB from bel_tr HB2.out (bel_tr (bel_al (Below.refl _ wA) _) hBB)); have rah := QA.out.below (bel_tr (bel_al (Below.refl _ wA) _) hBB); have ra0 := rah.cell 0 rfl; have ra1 := rah.free 0 (by simp); have ra2 := rah.1; have RA := Lib.hid rah; clear rah; have rch := ((Blk.new wA #[.nilIface] 68).below hBB : Blk wB wA.heap.size [.nilIface]); have rc0 := rch.cell 0 rfl; have rc1 := rch.free 0 (by simp); have rc2 := rch.1; have RC := Lib.hid rch; clear rch; have hsB := HB3.out.size; clear hBB qa0 qa1)
      | (go_simp; go_at_call 50; (with_reducible refine (HC2.out (wA)).mono ?_); rintro eB wB ⟨rfl, hBB⟩; have HB3 := Lib.hid (show Below w1.heap.size w1 wB from bel_tr HB2.out (bel_tr (Below.refl _ wA) hBB)); have rah := QA.out.below (bel_tr (Below.refl _ wA) hBB); have ra0 := rah.cell 0 rfl; have ra1 := rah.free 0 (by simp); have ra2 := rah.1; have RA := Lib.hid rah; clear rah; have hsB := HB3.out.size; clear hBB qa0 qa1)
      | (go_simp; go_at_call 50; (with_reducible refine (HC2.out (((wA.alloc (.cells #[.nilIface] 68)).alloc (.cells #[.nilIface] 68)))).mono ?_); rintro eB wB ⟨rfl, hBB⟩; have HB3 := Lib.hid (show Below w1.heap.size w1 wB from bel_tr HB2.out (bel_tr (bel_al (bel_al (Below.refl _ wA) _) _) hBB)); have rch := (((Blk.new wA #[.nilIface] 68).alloc _).below hBB : Blk wB wA.heap.size [.nilIface]); have rc0 := rch.cell 0 rfl; have rc1 := rch.free 0 (by simp); have rc2 := rch.1; have RC := Lib.hid rch; clear rch; have rdh := ((Blk.new' (w := wA.alloc (.cells #[.nilIface] 68)) (x := .nilIface) (t := 68) (v := wA.heap.size + 1) (by simp)).below hBB : Blk wB (wA.heap.size + 1) [.nilIface]); have rd0 := rdh.cell 0 rfl; have rd1 := rdh.free 0 (by simp); have rd2 := rdh.1; have RD := Lib.hid rdh; clear rdh; have hsB := HB3.out.size; clear hBB)
      | (go_simp; go_at_call 50; (with_reducible refine (HC2.out ((wA.alloc (.cells #[.nilIface] 68)))).mono ?_); rintro eB wB ⟨rfl, hBB⟩; have HB3 := Lib.hid (show Below w1.heap.size w1 wB from bel_tr HB2.out (bel_tr (bel_al (Below.refl _ wA) _) hBB)); have rch := ((Blk.new wA #[.nilIface] 68).below hBB : Blk wB wA.heap.size [.nilIface]); have rc0 := rch.cell 0 rfl; have rc1 := rch.free 0 (by simp); have rc2 := rch.1; have RC := Lib.hid rch; clear rch; have hsB := HB3.out.size; clear hBB)
      | (go_simp; go_at_call 50; (with_reducible refine (HC2.out (wA)).mono ?_); rintro eB wB ⟨rfl, hBB⟩; have HB3 := Lib.hid (show Below w1.heap.size w1 wB from bel_tr HB2.out (bel_tr (Below.refl _ wA) hBB)); have hsB := HB3.out.size; clear hBB))
  all_goals
    go_upto_region 2 with fail
    refine wp_gen67 (J := fun v t9 wz => Blk wz v [.nilIface] ∧ Blk wz t9 [.nilIface] ∧ Below w1.heap.size w1 wz) rfl rfl ⟨?_, ?_, ?_⟩ ?_
    · with_reducible repeat (first | exact RA.out | exact RB.out | exact RC.out | exact RD.out | (refine Blk.new' ?_; simp; done) | refine blk_set1 (y := .nilIface) ?_ | refine blk_oth ?_ ?_ | refine Blk.alloc ?_ _ | omega)
    · with_reducible repeat (first | exact RA.out | exact RB.out | exact RC.out | exact RD.out | (refine Blk.new' ?_; simp; done) | refine blk_set1 (y := .nilIface) ?_ | refine blk_oth ?_ ?_ | refine Blk.alloc ?_ _ | omega)
    · with_reducible repeat (first | exact HB3.out | refine bel_al ?_ _ | refine bel_set ?_ ?_ _ | omega)
    · rintro wz ⟨hv, ht, hb⟩
      have v0 := hv.cell 0 rfl
      have t0 := ht.cell 0 rfl
      have HBZ := Lib.hid hb
      clear hv ht hb
      go_wp2_with fail
      go_ret2
      exact ⟨rfl, HB.out.trans (HBZ.out.mono HB.out.size)⟩
set_option maxRecDepth 100000 in
set_option maxHeartbeats 16000000 in
theorem is16ni {k i c : Int} {t : Bs} {b : Dt} {bl : Option Addr} {bn bc : Nat} {cl : Option Addr} {cn cc : Nat} {l : Option Addr} {n cap : Nat} {k' i' c' : Int} {t' : Bs} {b' : Dt} {bl' : Option Addr} {bn' bc' : Nat} {cl' : Option Addr} {cn' cc' : Nat} {l' : Option Addr} {n' cap' : Nat} {w : World}
    (hk : k = 0) (hk' : 1 ≤ k') (hk2' : k' ≤ 10) :
    Calls Tryz.prog 16 #[vE k i c t b bl bn bc cl cn cc l n cap, vE k' i' c' t' b' bl' bn' bc' cl' cn' cc' l' n' cap'] w (fun e w' => e = .returned (.tuple #[.bool ((false, 0) : Bool × Int).1, .int .i64 ((false, 0) : Bool × Int).2]) ∧ Below w.heap.size w w') := by
  subst hk
  obtain ⟨h1, h2, hB, hz9⟩ := ebox2_facts w 0 i c t b bl bn bc cl cn cc l n cap k' i' c' t' b' bl' bn' bc' cl' cn' cc' l' n' cap'
  clear hz9
  unfold vE
  go_enter Tryz.func16, Tryz.ntmps16
  go_upto_region 1 with (fail)
  change Code.wp _ _ _ _ (ebox2 w 0 i c t b bl bn bc cl cn cc l n cap k' i' c' t' b' bl' bn' bc' cl' cn' cc' l' n' cap')
  generalize ebox2 w 0 i c t b bl bn bc cl cn cc l n cap k' i' c' t' b' bl' bn' bc' cl' cn' cc' l' n' cap' = w1 at *
  obtain ⟨q, hq⟩ : ∃ x, x = w.heap.size + 1 := ⟨_, rfl⟩
  obtain ⟨p, hp⟩ : ∃ x, x = w.heap.size := ⟨_, rfl⟩
  rw [← hq] at h2
  rw [← hp] at h1
  rw [← hq, ← hp]
  have HB := Lib.hid hB
  have HK := Lib.hid (show ∀ wx, Below w1.heap.size w1 wx → ((wx.cell? ⟨p, 0, none⟩ = some (.int .i64 0) ∧ wx.cell? ⟨p, 1, none⟩ = some (.int .i64 i) ∧ wx.cell? ⟨p, 2, none⟩ = some (.int .i64 c) ∧ wx.cell? ⟨p, 3, none⟩ = some (.string ⟨t.toArray⟩) ∧ wx.cell? ⟨p, 4, none⟩ = some (.int .i64 b.k) ∧ wx.cell? ⟨p, 5, none⟩ = some (.int .i64 b.i) ∧ wx.cell? ⟨p, 6, none⟩ = some (.int .u64 b.b) ∧ wx.cell? ⟨p, 7, none⟩ = some (.string ⟨b.t.toArray⟩) ∧ wx.cell? ⟨p, 8, none⟩ = some (.slice bl bn bc) ∧ wx.cell? ⟨p, 9, none⟩ = some (.slice cl cn cc) ∧ wx.cell? ⟨p, 10, none⟩ = some (.slice l n cap)) ∧ (wx.cell? ⟨q, 0, none⟩ = some (.int .i64 k') ∧ wx.cell? ⟨q, 1, none⟩ = some (.int .i64 i') ∧ wx.cell? ⟨q, 2, none⟩ = some (.int .i64 c') ∧ wx.cell? ⟨q, 3, none⟩ = some (.string ⟨t'.toArray⟩) ∧ wx.cell? ⟨q, 4, none⟩ = some (.int .i64 b'.k) ∧ wx.cell? ⟨q, 5, none⟩ = some (.int .i64 b'.i) ∧ wx.cell? ⟨q, 6, none⟩ = some (.int .u64 b'.b) ∧ wx.cell? ⟨q, 7, none⟩ = some (.string ⟨b'.t.toArray⟩) ∧ wx.cell? ⟨q, 8, none⟩ = some (.slice bl' bn' bc') ∧ wx.cell? ⟨q, 9, none⟩ = some (.slice cl' cn' cc') ∧ wx.cell? ⟨q, 10, none⟩ = some (.slice l' n' cap'))) from fun wx hx => by
    have a := h1.below hx
    have c := h2.below hx
    exact ⟨⟨a.cell 0 rfl, a.cell 1 rfl, a.cell 2 rfl, a.cell 3 rfl, a.cell 4 rfl, a.cell 5 rfl, a.cell 6 rfl, a.cell 7 rfl, a.cell 8 rfl, a.cell 9 rfl, a.cell 10 rfl⟩, ⟨c.cell 0 rfl, c.cell 1 rfl, c.cell 2 rfl, c.cell 3 rfl, c.cell 4 rfl, c.cell 5 rfl, c.cell 6 rfl, c.cell 7 rfl, c.cell 8 rfl, c.cell 9 rfl, c.cell 10 rfl⟩⟩)
  have HC1 := Lib.hid (fun (wx : World) => valN (i := i) (c := c) (t := t) (b := b) (bl := bl) (bn := bn) (bc := bc) (cl := cl) (cn := cn) (cc := cc) (l := l) (n := n) (cap := cap) (w := wx) rfl)
  have HC2 := Lib.hid (fun (wx : World) => valT (i := i') (c := c') (t := t') (b := b') (bl := bl') (bn := bn') (bc := bc') (cl := cl') (cn := cn') (cc := cc') (l := l') (n := n') (cap := cap') (w := wx) hk' hk2')
  unfold vE at HC1 HC2
  have n1 := fun W => nw1 W
  have n2 := fun W => nw2 W
  have d1 := fun W => nd1 W
  have d2 := fun W => nd2 W
  have d3 := fun W => nd3 W
  have d4 := fun W => nd4 W
  clear h1 h2 hB hq hp
  go_region_held3 (fun wx : World => (wx.cell? ⟨p, 0, none⟩ = some (.int .i64 0) ∧ wx.cell? ⟨p, 1, none⟩ = some (.int .i64 i) ∧ wx.cell? ⟨p, 2, none⟩ = some (.int .i64 c) ∧ wx.cell? ⟨p, 3, none⟩ = some (.string ⟨t.toArray⟩) ∧ wx.cell? ⟨p, 4, none⟩ = some (.int .i64 b.k) ∧ wx.cell? ⟨p, 5, none⟩ = some (.int .i64 b.i) ∧ wx.cell? ⟨p, 6, none⟩ = some (.int .u64 b.b) ∧ wx.cell? ⟨p, 7, none⟩ = some (.string ⟨b.t.toArray⟩) ∧ wx.cell? ⟨p, 8, none⟩ = some (.slice bl bn bc) ∧ wx.cell? ⟨p, 9, none⟩ = some (.slice cl cn cc) ∧ wx.cell? ⟨p, 10, none⟩ = some (.slice l n cap)) ∧ (wx.cell? ⟨q, 0, none⟩ = some (.int .i64 k') ∧ wx.cell? ⟨q, 1, none⟩ = some (.int .i64 i') ∧ wx.cell? ⟨q, 2, none⟩ = some (.int .i64 c') ∧ wx.cell? ⟨q, 3, none⟩ = some (.string ⟨t'.toArray⟩) ∧ wx.cell? ⟨q, 4, none⟩ = some (.int .i64 b'.k) ∧ wx.cell? ⟨q, 5, none⟩ = some (.int .i64 b'.i) ∧ wx.cell? ⟨q, 6, none⟩ = some (.int .u64 b'.b) ∧ wx.cell? ⟨q, 7, none⟩ = some (.string ⟨b'.t.toArray⟩) ∧ wx.cell? ⟨q, 8, none⟩ = some (.slice bl' bn' bc') ∧ wx.cell? ⟨q, 9, none⟩ = some (.slice cl' cn' cc') ∧ wx.cell? ⟨q, 10, none⟩ = some (.slice l' n' cap')))
    (first | exact HK.out _ (Below.refl _ _) | exact HK.out _ (by with_reducible repeat (first | exact Below.refl _ _ | exact HB3.out | exact HB2.out | refine bel_al ?_ _ | refine bel_dr ?_ | refine bel_set ?_ ?_ _ | omega)))
    (first
      | (go_simp; go_at_call 50; (with_reducible refine (HC1.out (w1.drew)).mono ?_); rintro eA wA ⟨rfl, hBA⟩; have HB2 := Lib.hid (show Below w1.heap.size w1 wA from bel_tr ((Below.refl _ w1).drew) hBA); have hsA := HB2.out.size; clear hBA)
      | (go_simp; go_at_call 50; (with_reducible refine (HC1.out ((w1.alloc (.cells #[.nilIface] 68)).drew)).mono ?_); rintro eA wA ⟨rfl, hBA⟩; have HB2 := Lib.hid (show Below w1.heap.size w1 wA from bel_tr (bel_dr (bel_al (Below.refl _ w1) _)) hBA); have qah := (((Blk.new w1 #[.nilIface] 68).below (Below.refl _ _).drew).below hBA : Blk wA w1.heap.size [.nilIface]); have qa0 := qah.cell 0 rfl; have qa1 := qah.free 0 (by simp); have qa2 := qah.1; have QA := Lib.hid qah; clear qah; have hsA := HB2.out.size; clear hBA)
      | (go_simp; go_at_call 50; (with_reducible refine (HC1.out (((w1.alloc (.cells #[.nilIface] 68)).alloc (.cells #[.nilIface] 68)).drew)).mono ?_); rintro eA wA ⟨rfl, hBA⟩; have HB2 := Lib.hid (show Below w1.heap.size w1 wA from bel_tr (bel_dr (bel_al (bel_al (Below.refl _ w1) _) _)) hBA); have qah := ((((Blk.new w1 #[.nilIface] 68).alloc _).below (Below.refl _ _).drew).below hBA : Blk wA w1.heap.size [.nilIface]); have qa0 := qah.cell 0 rfl; have qa1 := qah.free 0 (by simp); have qa2 := qah.1; have QA := Lib.hid qah; clear qah; have qbh := (((Blk.new' (w := w1.alloc (.cells #[.nilIface] 68)) (x := .nilIface) (t := 68) (v := w1.heap.size + 1) (by simp)).below (Below.refl _ _).drew).below hBA : Blk wA (w1.heap.size + 1) [.nilIface]); have qb0 := qbh.cell 0 rfl; have qb1 := qbh.free 0 (by simp); have qb2 := qbh.1; have QB := Lib.hid qbh; clear qbh; have hsA := HB2.out.size; clear hBA)
      | (go_simp; go_at_call 50; (with_reducible refine (HC2.out (wA)).mono ?_); rintro eB wB ⟨u2, y2v, rfl, hqp, hBB⟩; have HB3 := Lib.hid (show Below w1.heap.size w1 wB from bel_tr HB2.out (bel_tr (Below.refl _ wA) hBB)); have rah := QA.out.below (bel_tr (Below.refl _ wA) hBB); have ra0 := rah.cell 0 rfl; have ra1 := rah.free 0 (by simp); have ra2 := rah.1; have RA := Lib.hid rah; clear rah; have rbh := QB.out.below (bel_tr (Below.refl _ wA) hBB); have rb0 := rbh.cell 0 rfl; have rb1 := rbh.free 0 (by simp); have rb2 := rbh.1; have RB := Lib.hid rbh; clear rbh; have hsB := HB3.out.size; clear hBB hqp qa0 qa1 qb0 qb1)
      | (go_simp; go_at_call 50; (with_reducible refine (HC2.out ((wA.alloc (.cells #[.nilIface] 68)))).mono ?_); rintro eB wB ⟨u2, y2v, rfl, hqp, hBB⟩; have HB3 := Lib.hid (show Below w1.heap.size w1 wB from bel_tr HB2.out (bel_tr (bel_al (Below.refl _ wA) _) hBB)); have rah := QA.out.below (bel_tr (bel_al (Below.refl _ wA) _) hBB); have ra0 := rah.cell 0 rfl; have ra1 := rah.free 0 (by simp); have ra2 := rah.1; have RA := Lib.hid rah; clear rah; have rch := ((Blk.new wA #[.nilIface] 68).below hBB : Blk wB wA.heap.size [.nilIface]); have rc0 := rch.cell 0 rfl; have rc1 := rch.free 0 (by simp); have rc2 := rch.1; have RC := Lib.hid rch; clear rch; have hsB := HB3.out.size; clear hBB hqp qa0 qa1)
      | (go_simp; go_at_call 50; (with_reducible refine (HC2.out (wA)).mono ?_); rintro eB wB ⟨u2, y2v, rfl, hqp, hBB⟩; have HB3 := Lib.hid (show Below w1.heap.size w1 wB from bel_tr HB2.out (bel_tr (Below.refl _ wA) hBB)); have rah := QA.out.below (bel_tr (Below.refl _ wA) hBB); have ra0 := rah.cell 0 rfl; have ra1 := rah.free 0 (by simp); have ra2 := rah.1; have RA := Lib.hid rah; clear rah; have hsB := HB3.out.size; clear hBB hqp qa0 qa1)
      | (go_simp; go_at_call 50; (with_reducible refine (HC2.out (((wA.alloc (.cells #[.nilIface] 68)).alloc (.cells #[.nilIface] 68)))).mono ?_); rintro eB wB ⟨u2, y2v, rfl, hqp, hBB⟩; have HB3 := Lib.hid (show Below w1.heap.size w1 wB from bel_tr HB2.out (bel_tr (bel_al (bel_al (Below.refl _ wA) _) _) hBB)); have rch := (((Blk.new wA #[.nilIface] 68).alloc _).below hBB : Blk wB wA.heap.size [.nilIface]); have rc0 := rch.cell 0 rfl; have rc1 := rch.free 0 (by simp); have rc2 := rch.1; have RC := Lib.hid rch; clear rch; have rdh := ((Blk.new' (w := wA.alloc (.cells #[.nilIface] 68)) (x := .nilIface) (t := 68) (v := wA.heap.size + 1) (by simp)).below hBB : Blk wB (wA.heap.size + 1) [.nilIface]); have rd0 := rdh.cell 0 rfl; have rd1 := rdh.free 0 (by simp); have rd2 := rdh.1; have RD := Lib.hid rdh; clear rdh; have hsB := HB3.out.size; clear hBB hqp)
      | (go_simp; go_at_call 50; (with_reducible refine (HC2.out ((wA.alloc (.cells #[.nilIface] 68)))).mono ?_); rintro eB wB ⟨u2, y2v, rfl, hqp, hBB⟩; have HB3 := Lib.hid (show Below w1.heap.size w1 wB from bel_tr HB2.out (bel_tr (bel_al (Below.refl _ wA) _) hBB)); have rch := ((Blk.new wA #[.nilIface] 68).below hBB : Blk wB wA.heap.size [.nilIface]); have rc0 := rch.cell 0 rfl; have rc1 := rch.free 0 (by simp); have rc2 := rch.1; have RC := Lib.hid rch; clear rch; have hsB := HB3.out.size; clear hBB hqp)
      | (go_simp; go_at_call 50; (with_reducible refine (HC2.out (wA)).mono ?_); rintro eB wB ⟨u2, y2v, rfl, hqp, hBB⟩; have HB3 := Lib.hid (show Below w1.heap.size w1 wB from bel_tr HB2.out (bel_tr (Below.refl _ wA) hBB)); have hsB := HB3.out.size; clear hBB hqp))
  all_goals
    go_upto_region 2 with fail
    refine wp_gen67 (J := fun v t9 wz => Blk wz v [.nilIface] ∧ Blk wz t9 [.iface u2 y2v] ∧ Below w1.heap.size w1 wz) rfl rfl ⟨?_, ?_, ?_⟩ ?_
    · with_reducible repeat (first | exact RA.out | exact RB.out | exact RC.out | exact RD.out | (refine Blk.new' ?_; simp; done) | refine blk_set1 (y := .nilIface) ?_ | refine blk_oth ?_ ?_ | refine Blk.alloc ?_ _ | omega)
    · with_reducible repeat (first | exact RA.out | exact RB.out | exact RC.out | exact RD.out | (refine Blk.new' ?_; simp; done) | refine blk_set1 (y := .nilIface) ?_ | refine blk_oth ?_ ?_ | refine Blk.alloc ?_ _ | omega)
    · with_reducible repeat (first | exact HB3.out | refine bel_al ?_ _ | refine bel_set ?_ ?_ _ | omega)
    · rintro wz ⟨hv, ht, hb⟩
      have v0 := hv.cell 0 rfl
      have t0 := ht.cell 0 rfl
      have HBZ := Lib.hid hb
      clear hv ht hb
      go_wp2_with fail
      go_ret2
      exact ⟨rfl, HB.out.trans (HBZ.out.mono HB.out.size)⟩
set_option maxRecDepth 100000 in
set_option maxHeartbeats 16000000 in
theorem is16in {S : Nat → Prop} {k i c : Int} {t : Bs} {b : Dt} {cs : List Int} {kids : Eo} {bl : Option Addr} {bn bc : Nat} {cl : Option Addr} {cn cc : Nat} {l : Option Addr} {n cap : Nat} {k' i' c' : Int} {t' : Bs} {b' : Dt} {bl' : Option Addr} {bn' bc' : Nat} {cl' : Option Addr} {cn' cc' : Nat} {l' : Option Addr} {n' cap' : Nat} {w : World}
    (hk : 1 ≤ k) (hk2 : k ≤ 10) (hk' : k' = 0) (hE : ErAt S w ⟨k, i, c, t, b, cs, kids⟩ bl bn bc cl cn cc l n cap) :
    Calls Tryz.prog 16 #[vE k i c t b bl bn bc cl cn cc l n cap, vE k' i' c' t' b' bl' bn' bc' cl' cn' cc' l' n' cap'] w (fun e w' => e = .returned (.tuple #[.bool ((false, 0) : Bool × Int).1, .int .i64 ((false, 0) : Bool × Int).2]) ∧ Below w.heap.size w w') := by
  subst hk'
  obtain ⟨h1, h2, hB, hz9⟩ := ebox2_facts w k i c t b bl bn bc cl cn cc l n cap 0 i' c' t' b' bl' bn' bc' cl' cn' cc' l' n' cap'
  clear hz9
  unfold vE
  go_enter Tryz.func16, Tryz.ntmps16
  go_upto_region 1 with (fail)
  change Code.wp _ _ _ _ (ebox2 w k i c t b bl bn bc cl cn cc l n cap 0 i' c' t' b' bl' bn' bc' cl' cn' cc' l' n' cap')
  generalize ebox2 w k i c t b bl bn bc cl cn cc l n cap 0 i' c' t' b' bl' bn' bc' cl' cn' cc' l' n' cap' = w1 at *
  obtain ⟨q, hq⟩ : ∃ x, x = w.heap.size + 1 := ⟨_, rfl⟩
  obtain ⟨p, hp⟩ : ∃ x, x = w.heap.size := ⟨_, rfl⟩
  rw [← hq] at h2
  rw [← hp] at h1
  rw [← hq, ← hp]
  have HB := Lib.hid hB
  have HK := Lib.hid (show ∀ wx, Below w1.heap.size w1 wx → ((wx.cell? ⟨p, 0, none⟩ = some (.int .i64 k) ∧ wx.cell? ⟨p, 1, none⟩ = some (.int .i64 i) ∧ wx.cell? ⟨p, 2, none⟩ = some (.int .i64 c) ∧ wx.cell? ⟨p, 3, none⟩ = some (.string ⟨t.toArray⟩) ∧ wx.cell? ⟨p, 4, none⟩ = some (.int .i64 b.k) ∧ wx.cell? ⟨p, 5, none⟩ = some (.int .i64 b.i) ∧ wx.cell? ⟨p, 6, none⟩ = some (.int .u64 b.b) ∧ wx.cell? ⟨p, 7, none⟩ = some (.string ⟨b.t.toArray⟩) ∧ wx.cell? ⟨p, 8, none⟩ = some (.slice bl bn bc) ∧ wx.cell? ⟨p, 9, none⟩ = some (.slice cl cn cc) ∧ wx.cell? ⟨p, 10, none⟩ = some (.slice l n cap)) ∧ (wx.cell? ⟨q, 0, none⟩ = some (.int .i64 0) ∧ wx.cell? ⟨q, 1, none⟩ = some (.int .i64 i') ∧ wx.cell? ⟨q, 2, none⟩ = some (.int .i64 c') ∧ wx.cell? ⟨q, 3, none⟩ = some (.string ⟨t'.toArray⟩) ∧ wx.cell? ⟨q, 4, none⟩ = some (.int .i64 b'.k) ∧ wx.cell? ⟨q, 5, none⟩ = some (.int .i64 b'.i) ∧ wx.cell? ⟨q, 6, none⟩ = some (.int .u64 b'.b) ∧ wx.cell? ⟨q, 7, none⟩ = some (.string ⟨b'.t.toArray⟩) ∧ wx.cell? ⟨q, 8, none⟩ = some (.slice bl' bn' bc') ∧ wx.cell? ⟨q, 9, none⟩ = some (.slice cl' cn' cc') ∧ wx.cell? ⟨q, 10, none⟩ = some (.slice l' n' cap'))) from fun wx hx => by
    have a := h1.below hx
    have c := h2.below hx
    exact ⟨⟨a.cell 0 rfl, a.cell 1 rfl, a.cell 2 rfl, a.cell 3 rfl, a.cell 4 rfl, a.cell 5 rfl, a.cell 6 rfl, a.cell 7 rfl, a.cell 8 rfl, a.cell 9 rfl, a.cell 10 rfl⟩, ⟨c.cell 0 rfl, c.cell 1 rfl, c.cell 2 rfl, c.cell 3 rfl, c.cell 4 rfl, c.cell 5 rfl, c.cell 6 rfl, c.cell 7 rfl, c.cell 8 rfl, c.cell 9 rfl, c.cell 10 rfl⟩⟩)
  have HC1 := Lib.hid (fun (N : Nat → Prop) (wx : World) (hx : Below w1.heap.size w1 wx) (hN : ∀ x, N x → x < wx.heap.size) => valI (N := N) hk hk2 (hE.same (w' := wx) (fun x _ hl => (hB.trans (hx.mono hB.size)).block x hl) (fun x hx' _ => hx')) hN)
  have HC2 := Lib.hid (fun (wx : World) => valN (i := i') (c := c') (t := t') (b := b') (bl := bl') (bn := bn') (bc := bc') (cl := cl') (cn := cn') (cc := cc') (l := l') (n := n') (cap := cap') (w := wx) rfl)
  unfold vE at HC1 HC2
  have n1 := fun W => nw1 W
  have n2 := fun W => nw2 W
  have d1 := fun W => nd1 W
  have d2 := fun W => nd2 W
  have d3 := fun W => nd3 W
  have d4 := fun W => nd4 W
  clear h1 h2 hB hq hp hE
  go_region_held3 (fun wx : World => (wx.cell? ⟨p, 0, none⟩ = some (.int .i64 k) ∧ wx.cell? ⟨p, 1, none⟩ = some (.int .i64 i) ∧ wx.cell? ⟨p, 2, none⟩ = some (.int .i64 c) ∧ wx.cell? ⟨p, 3, none⟩ = some (.string ⟨t.toArray⟩) ∧ wx.cell? ⟨p, 4, none⟩ = some (.int .i64 b.k) ∧ wx.cell? ⟨p, 5, none⟩ = some (.int .i64 b.i) ∧ wx.cell? ⟨p, 6, none⟩ = some (.int .u64 b.b) ∧ wx.cell? ⟨p, 7, none⟩ = some (.string ⟨b.t.toArray⟩) ∧ wx.cell? ⟨p, 8, none⟩ = some (.slice bl bn bc) ∧ wx.cell? ⟨p, 9, none⟩ = some (.slice cl cn cc) ∧ wx.cell? ⟨p, 10, none⟩ = some (.slice l n cap)) ∧ (wx.cell? ⟨q, 0, none⟩ = some (.int .i64 0) ∧ wx.cell? ⟨q, 1, none⟩ = some (.int .i64 i') ∧ wx.cell? ⟨q, 2, none⟩ = some (.int .i64 c') ∧ wx.cell? ⟨q, 3, none⟩ = some (.string ⟨t'.toArray⟩) ∧ wx.cell? ⟨q, 4, none⟩ = some (.int .i64 b'.k) ∧ wx.cell? ⟨q, 5, none⟩ = some (.int .i64 b'.i) ∧ wx.cell? ⟨q, 6, none⟩ = some (.int .u64 b'.b) ∧ wx.cell? ⟨q, 7, none⟩ = some (.string ⟨b'.t.toArray⟩) ∧ wx.cell? ⟨q, 8, none⟩ = some (.slice bl' bn' bc') ∧ wx.cell? ⟨q, 9, none⟩ = some (.slice cl' cn' cc') ∧ wx.cell? ⟨q, 10, none⟩ = some (.slice l' n' cap')))
    (first | exact HK.out _ (Below.refl _ _) | exact HK.out _ (by with_reducible repeat (first | exact Below.refl _ _ | exact HB3.out | exact HB2.out | refine bel_al ?_ _ | refine bel_dr ?_ | refine bel_set ?_ ?_ _ | omega)))
    (first
      | (go_simp; go_at_call 50; (with_reducible refine (HC1.out (fun x => w1.heap.size ≤ x ∧ x < w1.heap.size + 0) (w1.drew) ((Below.refl _ w1).drew) (fun x hx => Nat.lt_of_lt_of_le hx.2 (Nat.le_refl _))).mono ?_); rintro eA wA ⟨u1, y1v, rfl, hv, hBA⟩; have HB2 := Lib.hid (show Below w1.heap.size w1 wA from bel_tr ((Below.refl _ w1).drew) hBA); have HV2 := Lib.hid hv; have hsA := HB2.out.size; clear hBA hv)
      | (go_simp; go_at_call 50; (with_reducible refine (HC1.out (fun x => w1.heap.size ≤ x ∧ x < w1.heap.size + 1) ((w1.alloc (.cells #[.nilIface] 68)).drew) (bel_dr (bel_al (Below.refl _ w1) _)) (fun x hx => Nat.lt_of_lt_of_le hx.2 (sz1 w1 _))).mono ?_); rintro eA wA ⟨u1, y1v, rfl, hv, hBA⟩; have HB2 := Lib.hid (show Below w1.heap.size w1 wA from bel_tr (bel_dr (bel_al (Below.refl _ w1) _)) hBA); have HV2 := Lib.hid hv; have qah := (((Blk.new w1 #[.nilIface] 68).below (Below.refl _ _).drew).below hBA : Blk wA w1.heap.size [.nilIface]); have qa0 := qah.cell 0 rfl; have qa1 := qah.free 0 (by simp); have qa2 := qah.1; have QA := Lib.hid qah; clear qah; have hsA := HB2.out.size; clear hBA hv)
      | (go_simp; go_at_call 50; (with_reducible refine (HC1.out (fun x => w1.heap.size ≤ x ∧ x < w1.heap.size + 2) (((w1.alloc (.cells #[.nilIface] 68)).alloc (.cells #[.nilIface] 68)).drew) (bel_dr (bel_al (bel_al (Below.refl _ w1) _) _)) (fun x hx => Nat.lt_of_lt_of_le hx.2 (sz2 w1 _ _))).mono ?_); rintro eA wA ⟨u1, y1v, rfl, hv, hBA⟩; have HB2 := Lib.hid (show Below w1.heap.size w1 wA from bel_tr (bel_dr (bel_al (bel_al (Below.refl _ w1) _) _)) hBA); have HV2 := Lib.hid hv; have qah := ((((Blk.new w1 #[.nilIface] 68).alloc _).below (Below.refl _ _).drew).below hBA : Blk wA w1.heap.size [.nilIface]); have qa0 := qah.cell 0 rfl; have qa1 := qah.free 0 (by simp); have qa2 := qah.1; have QA := Lib.hid qah; clear qah; have qbh := (((Blk.new' (w := w1.alloc (.cells #[.nilIface] 68)) (x := .nilIface) (t := 68) (v := w1.heap.size + 1) (by simp)).below (Below.refl _ _).drew).below hBA : Blk wA (w1.heap.size + 1) [.nilIface]); have qb0 := qbh.cell 0 rfl; have qb1 := qbh.free 0 (by simp); have qb2 := qbh.1; have QB := Lib.hid qbh; clear qbh; have hsA := HB2.out.size; clear hBA hv)
      | (go_simp; go_at_call 50; (with_reducible refine (HC2.out (wA)).mono ?_); rintro eB wB ⟨rfl, hBB⟩; have HB3 := Lib.hid (show Below w1.heap.size w1 wB from bel_tr HB2.out (bel_tr (Below.refl _ wA) hBB)); have rah := QA.out.below (bel_tr (Below.refl _ wA) hBB); have ra0 := rah.cell 0 rfl; have ra1 := rah.free 0 (by simp); have ra2 := rah.1; have RA := Lib.hid rah; clear rah; have rbh := QB.out.below (bel_tr (Below.refl _ wA) hBB); have rb0 := rbh.cell 0 rfl; have rb1 := rbh.free 0 (by simp); have rb2 := rbh.1; have RB := Lib.hid rbh; clear rbh; have hsB := HB3.out.size; clear hBB qa0 qa1 qb0 qb1)
      | (go_simp; go_at_call 50; (with_reducible refine (HC2.out ((wA.alloc (.cells #[.nilIface] 68)))).mono ?_); rintro eB wB ⟨rfl, hBB⟩; have HB3 := Lib.hid (show Below w1.heap.size w1 wB from bel_tr HB2.out (bel_tr (bel_al (Below.refl _ wA) _) hBB)); have rah := QA.out.below (bel_tr (bel_al (Below.refl _ wA) _) hBB); have ra0 := rah.cell 0 rfl; have ra1 := rah.free 0 (by simp); have ra2 := rah.1; have RA := Lib.hid rah; clear rah; have rch := ((Blk.new wA #[.nilIface] 68).below hBB : Blk wB wA.heap.size [.nilIface]); have rc0 := rch.cell 0 rfl; have rc1 := rch.free 0 (by simp); have rc2 := rch.1; have RC := Lib.hid rch; clear rch; have hsB := HB3.out.size; clear hBB qa0 qa1)
      | (go_simp; go_at_call 50; (with_reducible refine (HC2.out (wA)).mono ?_); rintro eB wB ⟨rfl, hBB⟩; have HB3 := Lib.hid (show Below w1.heap.size w1 wB from bel_tr HB2.out (bel_tr (Below.refl _ wA) hBB)); have rah := QA.out.below (bel_tr (Below.refl _ wA) hBB); have ra0 := rah.cell 0 rfl; have ra1 := rah.free 0 (by simp); have ra2 := rah.1; have RA := Lib.hid rah; clear rah; have hsB := HB3.out.size; clear hBB qa0 qa1)
      | (go_simp; go_at_call 50; (with_reducible refine (HC2.out (((wA.alloc (.cells #[.nilIface] 68)).alloc (.cells #[.nilIface] 68)))).mono ?_); rintro eB wB ⟨rfl, hBB⟩; have HB3 := Lib.hid (show Below w1.heap.size w1 wB from bel_tr HB2.out (bel_tr (bel_al (bel_al (Below.refl _ wA) _) _) hBB)); have rch := (((Blk.new wA #[.nilIface] 68).alloc _).below hBB : Blk wB wA.heap.size [.nilIface]); have rc0 := rch.cell 0 rfl; have rc1 := rch.free 0 (by simp); have rc2 := rch.1; have RC := Lib.hid rch; clear rch; have rdh := ((Blk.new' (w := wA.alloc (.cells #[.nilIface] 68)) (x := .nilIface) (t := 68) (v := wA.heap.size + 1) (by simp)).below hBB : Blk wB (wA.heap.size + 1) [.nilIface]); have rd0 := rdh.cell 0 rfl; have rd1 := rdh.free 0 (by simp); have rd2 := rdh.1; have RD := Lib.hid rdh; clear rdh; have hsB := HB3.out.size; clear hBB)
      | (go_simp; go_at_call 50; (with_reducible refine (HC2.out ((wA.alloc (.cells #[.nilIface] 68)))).mono ?_); rintro eB wB ⟨rfl, hBB⟩; have HB3 := Lib.hid (show Below w1.heap.size w1 wB from bel_tr HB2.out (bel_tr (bel_al (Below.refl _ wA) _) hBB)); have rch := ((Blk.new wA #[.nilIface] 68).below hBB : Blk wB wA.heap.size [.nilIface]); have rc0 := rch.cell 0 rfl; have rc1 := rch.free 0 (by simp); have rc2 := rch.1; have RC := Lib.hid rch; clear rch; have hsB := HB3.out.size; clear hBB)
      | (go_simp; go_at_call 50; (with_reducible refine (HC2.out (wA)).mono ?_); rintro eB wB ⟨rfl, hBB⟩; have HB3 := Lib.hid (show Below w1.heap.size w1 wB from bel_tr HB2.out (bel_tr (Below.refl _ wA) hBB)); have hsB := HB3.out.size; clear hBB))
  all_goals
    go_upto_region 2 with fail
    refine wp_gen67 (J := fun v t9 wz => Blk wz v [.iface u1 y1v] ∧ Blk wz t9 [.nilIface] ∧ Below w1.heap.size w1 wz) rfl rfl ⟨?_, ?_, ?_⟩ ?_
    · with_reducible repeat (first | exact RA.out | exact RB.out | exact RC.out | exact RD.out | (refine Blk.new' ?_; simp; done) | refine blk_set1 (y := .nilIface) ?_ | refine blk_oth ?_ ?_ | refine Blk.alloc ?_ _ | omega)
    · with_reducible repeat (first | exact RA.out | exact RB.out | exact RC.out | exact RD.out | (refine Blk.new' ?_; simp; done) | refine blk_set1 (y := .nilIface) ?_ | refine blk_oth ?_ ?_ | refine Blk.alloc ?_ _ | omega)
    · with_reducible repeat (first | exact HB3.out | refine bel_al ?_ _ | refine bel_set ?_ ?_ _ | omega)
    · rintro wz ⟨hv, ht, hb⟩
      have v0 := hv.cell 0 rfl
      have t0 := ht.cell 0 rfl
      have HBZ := Lib.hid hb
      clear hv ht hb
      go_wp2_with fail
      go_ret2
      exact ⟨rfl, HB.out.trans (HBZ.out.mono HB.out.size)⟩
set_option maxRecDepth 100000 in
set_option maxHeartbeats 16000000 in
theorem is16ii {a0 : Addr} {S : Nat → Prop} {k i c : Int} {t : Bs} {b : Dt} {cs : List Int} {kids : Eo} {bl : Option Addr} {bn bc : Nat} {cl : Option Addr} {cn cc : Nat} {l : Option Addr} {n cap : Nat} {k' i' c' : Int} {t' : Bs} {b' : Dt} {bl' : Option Addr} {bn' bc' : Nat} {cl' : Option Addr} {cn' cc' : Nat} {l' : Option Addr} {n' cap' : Nat} {w : World}
    (hk : 1 ≤ k) (hk2 : k ≤ 10) (hk' : 1 ≤ k') (hk2' : k' ≤ 10) (hE : ErAt S w ⟨k, i, c, t, b, cs, kids⟩ bl bn bc cl cn cc l n cap) (hG : FoAt S w b'.l bl' bn' bc') (hS : ∀ x, S x → x < w.heap.size) (hL : LB a0 w) (h5' : k' = 5 → okB b') (hr : rright1 k i c t b cs kids = true) (hd : ehi kids ≤ 1000) :
    Calls Tryz.prog 16 #[vE k i c t b bl bn bc cl cn cc l n cap, vE k' i' c' t' b' bl' bn' bc' cl' cn' cc' l' n' cap'] w (fun e w' => e = .returned (.tuple #[.bool (is1 ⟨k', i', c', t', b', [], .nil⟩ k i c t b cs kids).1, .int .i64 (is1 ⟨k', i', c', t', b', [], .nil⟩ k i c t b cs kids).2]) ∧ Below w.heap.size w w') := by
  obtain ⟨h1, h2, hB, hz9⟩ := ebox2_facts w k i c t b bl bn bc cl cn cc l n cap k' i' c' t' b' bl' bn' bc' cl' cn' cc' l' n' cap'
  clear hz9
  unfold vE
  go_enter Tryz.func16, Tryz.ntmps16
  go_upto_region 1 with (fail)
  change Code.wp _ _ _ _ (ebox2 w k i c t b bl bn bc cl cn cc l n cap k' i' c' t' b' bl' bn' bc' cl' cn' cc' l' n' cap')
  generalize ebox2 w k i c t b bl bn bc cl cn cc l n cap k' i' c' t' b' bl' bn' bc' cl' cn' cc' l' n' cap' = w1 at *
  obtain ⟨q, hq⟩ : ∃ x, x = w.heap.size + 1 := ⟨_, rfl⟩
  obtain ⟨p, hp⟩ : ∃ x, x = w.heap.size := ⟨_, rfl⟩
  rw [← hq] at h2
  rw [← hp] at h1
  rw [← hq, ← hp]
  have HB := Lib.hid hB
  have HK := Lib.hid (show ∀ wx, Below w1.heap.size w1 wx → ((wx.cell? ⟨p, 0, none⟩ = some (.int .i64 k) ∧ wx.cell? ⟨p, 1, none⟩ = some (.int .i64 i) ∧ wx.cell? ⟨p, 2, none⟩ = some (.int .i64 c) ∧ wx.cell? ⟨p, 3, none⟩ = some (.string ⟨t.toArray⟩) ∧ wx.cell? ⟨p, 4, none⟩ = some (.int .i64 b.k) ∧ wx.cell? ⟨p, 5, none⟩ = some (.int .i64 b.i) ∧ wx.cell? ⟨p, 6, none⟩ = some (.int .u64 b.b) ∧ wx.cell? ⟨p, 7, none⟩ = some (.string ⟨b.t.toArray⟩) ∧ wx.cell? ⟨p, 8, none⟩ = some (.slice bl bn bc) ∧ wx.cell? ⟨p, 9, none⟩ = some (.slice cl cn cc) ∧ wx.cell? ⟨p, 10, none⟩ = some (.slice l n cap)) ∧ (wx.cell? ⟨q, 0, none⟩ = some (.int .i64 k') ∧ wx.cell? ⟨q, 1, none⟩ = some (.int .i64 i') ∧ wx.cell? ⟨q, 2, none⟩ = some (.int .i64 c') ∧ wx.cell? ⟨q, 3, none⟩ = some (.string ⟨t'.toArray⟩) ∧ wx.cell? ⟨q, 4, none⟩ = some (.int .i64 b'.k) ∧ wx.cell? ⟨q, 5, none⟩ = some (.int .i64 b'.i) ∧ wx.cell? ⟨q, 6, none⟩ = some (.int .u64 b'.b) ∧ wx.cell? ⟨q, 7, none⟩ = some (.string ⟨b'.t.toArray⟩) ∧ wx.cell? ⟨q, 8, none⟩ = some (.slice bl' bn' bc') ∧ wx.cell? ⟨q, 9, none⟩ = some (.slice cl' cn' cc') ∧ wx.cell? ⟨q, 10, none⟩ = some (.slice l' n' cap'))) from fun wx hx => by
    have a := h1.below hx
    have c := h2.below hx
    exact ⟨⟨a.cell 0 rfl, a.cell 1 rfl, a.cell 2 rfl, a.cell 3 rfl, a.cell 4 rfl, a.cell 5 rfl, a.cell 6 rfl, a.cell 7 rfl, a.cell 8 rfl, a.cell 9 rfl, a.cell 10 rfl⟩, ⟨c.cell 0 rfl, c.cell 1 rfl, c.cell 2 rfl, c.cell 3 rfl, c.cell 4 rfl, c.cell 5 rfl, c.cell 6 rfl, c.cell 7 rfl, c.cell 8 rfl, c.cell 9 rfl, c.cell 10 rfl⟩⟩)
  have HC1 := Lib.hid (fun (N : Nat → Prop) (wx : World) (hx : Below w1.heap.size w1 wx) (hN : ∀ x, N x → x < wx.heap.size) => valI (N := N) hk hk2 (hE.same (w' := wx) (fun x _ hl => (hB.trans (hx.mono hB.size)).block x hl) (fun x hx' _ => hx')) hN)
  have HC2 := Lib.hid (fun (wx : World) => valT (i := i') (c := c') (t := t') (b := b') (bl := bl') (bn := bn') (bc := bc') (cl := cl') (cn := cn') (cc := cc') (l := l') (n := n') (cap := cap') (w := wx) hk' hk2')
  unfold vE at HC1 HC2
  have HT := Lib.hid (And.intro h2 (And.intro (hG.same (w' := w1) (fun x _ hl => hB.block x hl) (fun x hx _ => hx)) (hL.below hB)))
  have HSS := Lib.hid (show ∀ x, S x → x < w1.heap.size from fun x hx => Nat.lt_of_lt_of_le (hS x hx) hB.size)
  have HPR := Lib.hid (And.intro h5' (And.intro hr (And.intro hd (And.intro hk' hk2'))))
  have hN := is1_nrm ⟨k', i', c', t', b', [], .nil⟩ k i c t b cs kids
  have n1 := fun W => nw1 W
  have n2 := fun W => nw2 W
  have d1 := fun W => nd1 W
  have d2 := fun W => nd2 W
  have d3 := fun W => nd3 W
  have d4 := fun W => nd4 W
  clear h1 h2 hB hq hp hE hG hS hL h5' hr hd
  go_region_held3 (fun wx : World => (wx.cell? ⟨p, 0, none⟩ = some (.int .i64 k) ∧ wx.cell? ⟨p, 1, none⟩ = some (.int .i64 i) ∧ wx.cell? ⟨p, 2, none⟩ = some (.int .i64 c) ∧ wx.cell? ⟨p, 3, none⟩ = some (.string ⟨t.toArray⟩) ∧ wx.cell? ⟨p, 4, none⟩ = some (.int .i64 b.k) ∧ wx.cell? ⟨p, 5, none⟩ = some (.int .i64 b.i) ∧ wx.cell? ⟨p, 6, none⟩ = some (.int .u64 b.b) ∧ wx.cell? ⟨p, 7, none⟩ = some (.string ⟨b.t.toArray⟩) ∧ wx.cell? ⟨p, 8, none⟩ = some (.slice bl bn bc) ∧ wx.cell? ⟨p, 9, none⟩ = some (.slice cl cn cc) ∧ wx.cell? ⟨p, 10, none⟩ = some (.slice l n cap)) ∧ (wx.cell? ⟨q, 0, none⟩ = some (.int .i64 k') ∧ wx.cell? ⟨q, 1, none⟩ = some (.int .i64 i') ∧ wx.cell? ⟨q, 2, none⟩ = some (.int .i64 c') ∧ wx.cell? ⟨q, 3, none⟩ = some (.string ⟨t'.toArray⟩) ∧ wx.cell? ⟨q, 4, none⟩ = some (.int .i64 b'.k) ∧ wx.cell? ⟨q, 5, none⟩ = some (.int .i64 b'.i) ∧ wx.cell? ⟨q, 6, none⟩ = some (.int .u64 b'.b) ∧ wx.cell? ⟨q, 7, none⟩ = some (.string ⟨b'.t.toArray⟩) ∧ wx.cell? ⟨q, 8, none⟩ = some (.slice bl' bn' bc') ∧ wx.cell? ⟨q, 9, none⟩ = some (.slice cl' cn' cc') ∧ wx.cell? ⟨q, 10, none⟩ = some (.slice l' n' cap')))
    (first | exact HK.out _ (Below.refl _ _) | exact HK.out _ (by with_reducible repeat (first | exact Below.refl _ _ | exact HB3.out | exact HB2.out | refine bel_al ?_ _ | refine bel_dr ?_ | refine bel_set ?_ ?_ _ | omega)))
    (first
      | (go_simp; go_at_call 50; (with_reducible refine (HC1.out (fun x => w1.heap.size ≤ x ∧ x < w1.heap.size + 0) (w1.drew) ((Below.refl _ w1).drew) (fun x hx => Nat.lt_of_lt_of_le hx.2 (Nat.le_refl _))).mono ?_); rintro eA wA ⟨u1, y1v, rfl, hv, hBA⟩; have HB2 := Lib.hid (show Below w1.heap.size w1 wA from bel_tr ((Below.refl _ w1).drew) hBA); have HV2 := Lib.hid hv; have hsA := HB2.out.size; clear hBA hv)
      | (go_simp; go_at_call 50; (with_reducible refine (HC1.out (fun x => w1.heap.size ≤ x ∧ x < w1.heap.size + 1) ((w1.alloc (.cells #[.nilIface] 68)).drew) (bel_dr (bel_al (Below.refl _ w1) _)) (fun x hx => Nat.lt_of_lt_of_le hx.2 (sz1 w1 _))).mono ?_); rintro eA wA ⟨u1, y1v, rfl, hv, hBA⟩; have HB2 := Lib.hid (show Below w1.heap.size w1 wA from bel_tr (bel_dr (bel_al (Below.refl _ w1) _)) hBA); have HV2 := Lib.hid hv; have qah := (((Blk.new w1 #[.nilIface] 68).below (Below.refl _ _).drew).below hBA : Blk wA w1.heap.size [.nilIface]); have qa0 := qah.cell 0 rfl; have qa1 := qah.free 0 (by simp); have qa2 := qah.1; have QA := Lib.hid qah; clear qah; have hsA := HB2.out.size; clear hBA hv)
      | (go_simp; go_at_call 50; (with_reducible refine (HC1.out (fun x => w1.heap.size ≤ x ∧ x < w1.heap.size + 2) (((w1.alloc (.cells #[.nilIface] 68)).alloc (.cells #[.nilIface] 68)).drew) (bel_dr (bel_al (bel_al (Below.refl _ w1) _) _)) (fun x hx => Nat.lt_of_lt_of_le hx.2 (sz2 w1 _ _))).mono ?_); rintro eA wA ⟨u1, y1v, rfl, hv, hBA⟩; have HB2 := Lib.hid (show Below w1.heap.size w1 wA from bel_tr (bel_dr (bel_al (bel_al (Below.refl _ w1) _) _)) hBA); have HV2 := Lib.hid hv; have qah := ((((Blk.new w1 #[.nilIface] 68).alloc _).below (Below.refl _ _).drew).below hBA : Blk wA w1.heap.size [.nilIface]); have qa0 := qah.cell 0 rfl; have qa1 := qah.free 0 (by simp); have qa2 := qah.1; have QA := Lib.hid qah; clear qah; have qbh := (((Blk.new' (w := w1.alloc (.cells #[.nilIface] 68)) (x := .nilIface) (t := 68) (v := w1.heap.size + 1) (by simp)).below (Below.refl _ _).drew).below hBA : Blk wA (w1.heap.size + 1) [.nilIface]); have qb0 := qbh.cell 0 rfl; have qb1 := qbh.free 0 (by simp); have qb2 := qbh.1; have QB := Lib.hid qbh; clear qbh; have hsA := HB2.out.size; clear hBA hv)
      | (go_simp; go_at_call 50; (with_reducible refine (HC2.out (wA)).mono ?_); rintro eB wB ⟨u2, y2v, rfl, hqp, hBB⟩; have HB3 := Lib.hid (show Below w1.heap.size w1 wB from bel_tr HB2.out (bel_tr (Below.refl _ wA) hBB)); have HQP := Lib.hid hqp; have HVW := Lib.hid (bel_tr (Below.refl _ wA) hBB); have rah := QA.out.below (bel_tr (Below.refl _ wA) hBB); have ra0 := rah.cell 0 rfl; have ra1 := rah.free 0 (by simp); have ra2 := rah.1; have RA := Lib.hid rah; clear rah; have rbh := QB.out.below (bel_tr (Below.refl _ wA) hBB); have rb0 := rbh.cell 0 rfl; have rb1 := rbh.free 0 (by simp); have rb2 := rbh.1; have RB := Lib.hid rbh; clear rbh; have hsB := HB3.out.size; clear hBB hqp qa0 qa1 qb0 qb1)
      | (go_simp; go_at_call 50; (with_reducible refine (HC2.out ((wA.alloc (.cells #[.nilIface] 68)))).mono ?_); rintro eB wB ⟨u2, y2v, rfl, hqp, hBB⟩; have HB3 := Lib.hid (show Below w1.heap.size w1 wB from bel_tr HB2.out (bel_tr (bel_al (Below.refl _ wA) _) hBB)); have HQP := Lib.hid hqp; have HVW := Lib.hid (bel_tr (bel_al (Below.refl _ wA) _) hBB); have rah := QA.out.below (bel_tr (bel_al (Below.refl _ wA) _) hBB); have ra0 := rah.cell 0 rfl; have ra1 := rah.free 0 (by simp); have ra2 := rah.1; have RA := Lib.hid rah; clear rah; have rch := ((Blk.new wA #[.nilIface] 68).below hBB : Blk wB wA.heap.size [.nilIface]); have rc0 := rch.cell 0 rfl; have rc1 := rch.free 0 (by simp); have rc2 := rch.1; have RC := Lib.hid rch; clear rch; have hsB := HB3.out.size; clear hBB hqp qa0 qa1)
      | (go_simp; go_at_call 50; (with_reducible refine (HC2.out (wA)).mono ?_); rintro eB wB ⟨u2, y2v, rfl, hqp, hBB⟩; have HB3 := Lib.hid (show Below w1.heap.size w1 wB from bel_tr HB2.out (bel_tr (Below.refl _ wA) hBB)); have HQP := Lib.hid hqp; have HVW := Lib.hid (bel_tr (Below.refl _ wA) hBB); have rah := QA.out.below (bel_tr (Below.refl _ wA) hBB); have ra0 := rah.cell 0 rfl; have ra1 := rah.free 0 (by simp); have ra2 := rah.1; have RA := Lib.hid rah; clear rah; have hsB := HB3.out.size; clear hBB hqp qa0 qa1)
      | (go_simp; go_at_call 50; (with_reducible refine (HC2.out (((wA.alloc (.cells #[.nilIface] 68)).alloc (.cells #[.nilIface] 68)))).mono ?_); rintro eB wB ⟨u2, y2v, rfl, hqp, hBB⟩; have HB3 := Lib.hid (show Below w1.heap.size w1 wB from bel_tr HB2.out (bel_tr (bel_al (bel_al (Below.refl _ wA) _) _) hBB)); have HQP := Lib.hid hqp; have HVW := Lib.hid (bel_tr (bel_al (bel_al (Below.refl _ wA) _) _) hBB); have rch := (((Blk.new wA #[.nilIface] 68).alloc _).below hBB : Blk wB wA.heap.size [.nilIface]); have rc0 := rch.cell 0 rfl; have rc1 := rch.free 0 (by simp); have rc2 := rch.1; have RC := Lib.hid rch; clear rch; have rdh := ((Blk.new' (w := wA.alloc (.cells #[.nilIface] 68)) (x := .nilIface) (t := 68) (v := wA.heap.size + 1) (by simp)).below hBB : Blk wB (wA.heap.size + 1) [.nilIface]); have rd0 := rdh.cell 0 rfl; have rd1 := rdh.free 0 (by simp); have rd2 := rdh.1; have RD := Lib.hid rdh; clear rdh; have hsB := HB3.out.size; clear hBB hqp)
      | (go_simp; go_at_call 50; (with_reducible refine (HC2.out ((wA.alloc (.cells #[.nilIface] 68)))).mono ?_); rintro eB wB ⟨u2, y2v, rfl, hqp, hBB⟩; have HB3 := Lib.hid (show Below w1.heap.size w1 wB from bel_tr HB2.out (bel_tr (bel_al (Below.refl _ wA) _) hBB)); have HQP := Lib.hid hqp; have HVW := Lib.hid (bel_tr (bel_al (Below.refl _ wA) _) hBB); have rch := ((Blk.new wA #[.nilIface] 68).below hBB : Blk wB wA.heap.size [.nilIface]); have rc0 := rch.cell 0 rfl; have rc1 := rch.free 0 (by simp); have rc2 := rch.1; have RC := Lib.hid rch; clear rch; have hsB := HB3.out.size; clear hBB hqp)
      | (go_simp; go_at_call 50; (with_reducible refine (HC2.out (wA)).mono ?_); rintro eB wB ⟨u2, y2v, rfl, hqp, hBB⟩; have HB3 := Lib.hid (show Below w1.heap.size w1 wB from bel_tr HB2.out (bel_tr (Below.refl _ wA) hBB)); have HQP := Lib.hid hqp; have HVW := Lib.hid (bel_tr (Below.refl _ wA) hBB); have hsB := HB3.out.size; clear hBB hqp))
  all_goals
    go_upto_region 2 with fail
    refine wp_gen67 (J := fun v t9 wz => Blk wz v [.iface u1 y1v] ∧ Blk wz t9 [.iface u2 y2v] ∧ EVAt S (fun x => x = v ∨ x = t9) wz ⟨k, i, c, t, b, cs, kids⟩ (.iface u1 y1v) ∧ Below w1.heap.size w1 wz) rfl rfl ⟨?_, ?_, ?_, ?_⟩ ?_
    · with_reducible repeat (first | exact RA.out | exact RB.out | exact RC.out | exact RD.out | (refine Blk.new' ?_; simp; done) | refine blk_set1 (y := .nilIface) ?_ | refine blk_oth ?_ ?_ | refine Blk.alloc ?_ _ | omega)
    · with_reducible repeat (first | exact RA.out | exact RB.out | exact RC.out | exact RD.out | (refine Blk.new' ?_; simp; done) | refine blk_set1 (y := .nilIface) ?_ | refine blk_oth ?_ ?_ | refine Blk.alloc ?_ _ | omega)
    · have hAB := HVW.out.size
      refine ((HV2.out.mono (fun x hx h => by
        have h' : x = _ ∨ x = _ := h
        exact ⟨by omega, by omega⟩)).below HVW.out (fun x hx h => by
        have h' : x = _ ∨ x = _ := h
        have := HSS.out x hx
        omega)).keep (?_ : Kept _ wB _) (fun _ _ h => h) (fun x hx h => by
        have h' : x = _ ∨ x = _ := h
        have := HSS.out x hx
        omega)
      with_reducible repeat (first | exact Kept.refl _ _ | refine kal ?_ _ | refine kpt ?_ ?_ | exact .inl rfl | exact .inr rfl)
    · with_reducible repeat (first | exact HB3.out | refine bel_al ?_ _ | refine bel_set ?_ ?_ _ | omega)
    · rintro wz ⟨hv, ht, hw, hb⟩
      have v0 := hv.cell 0 rfl
      have t0 := ht.cell 0 rfl
      obtain ⟨q9, p9, hqp⟩ := HQP.out
      have hT0 : TG0 a0 S q _ ⟨k', i', c', t', b', [], .nil⟩ wz := ⟨⟨bl', bn', bc', cl', cn', cc', l', n', cap', q9, p9, HT.out.2.1.same (fun x _ hl => hb.block x hl) (fun x hx _ => hx), HT.out.1.below hb, by rw [hqp]; exact ht⟩, HT.out.2.2.below hb, Nat.lt_of_le_of_lt (Nat.zero_le _) hv.1, HPR.out.1, HPR.out.2.2.2, fun x hx => Nat.lt_of_lt_of_le (HSS.out x hx) hb.size⟩
      have HCC := Lib.hid (comp51g hv hT0 (hw.mono (fun _ _ h => h.elim)) HPR.out.2.1 HPR.out.2.2.1)
      unfold F51 at HCC
      have HBZ := Lib.hid hb
      clear hv ht hw hb hT0
      go_wp2_with (go_at_call 41; (with_reducible refine HCC.out.mono ?_); rintro e5 w5 ⟨rfl, hB5⟩; have HB5 := Lib.hid hB5; clear hB5)
      go_ret2
      exact ⟨rfl, HB.out.trans ((HBZ.out.trans (HB5.out.mono HBZ.out.size)).mono HB.out.size)⟩
theorem is16g {a0 : Addr} {S : Nat → Prop} {k i c : Int} {t : Bs} {b : Dt} {cs : List Int} {kids : Eo} {bl : Option Addr} {bn bc : Nat} {cl : Option Addr} {cn cc : Nat} {l : Option Addr} {n cap : Nat} {k' i' c' : Int} {t' : Bs} {b' : Dt} {bl' : Option Addr} {bn' bc' : Nat} {cl' : Option Addr} {cn' cc' : Nat} {l' : Option Addr} {n' cap' : Nat} {w : World}
    (hk : 0 ≤ k ∧ k ≤ 10) (hk' : 0 ≤ k' ∧ k' ≤ 10) (hE : ErAt S w ⟨k, i, c, t, b, cs, kids⟩ bl bn bc cl cn cc l n cap) (hG : FoAt S w b'.l bl' bn' bc') (hS : ∀ x, S x → x < w.heap.size) (hL : LB a0 w) (h5' : k' = 5 → okB b') (hr : rright1 k i c t b cs kids = true) (hd : ehi kids ≤ 1000) :
    Calls Tryz.prog 16 #[vE k i c t b bl bn bc cl cn cc l n cap, vE k' i' c' t' b' bl' bn' bc' cl' cn' cc' l' n' cap'] w (fun e w' => e = .returned (.tuple #[.bool (isTop ⟨k', i', c', t', b', [], .nil⟩ k i c t b cs kids).1, .int .i64 (isTop ⟨k', i', c', t', b', [], .nil⟩ k i c t b cs kids).2]) ∧ Below w.heap.size w w') := by
  by_cases h0 : k = 0
  · have ht : isTop ⟨k', i', c', t', b', [], .nil⟩ k i c t b cs kids = (k == k', 0) := by unfold isTop; rw [if_pos (.inl h0)]
    rw [ht]
    by_cases h0' : k' = 0
    · rw [show (k == k') = true by simp [h0, h0']]
      exact is16nn h0 h0'
    · rw [show (k == k') = false by simp; omega]
      exact is16ni h0 (by omega) hk'.2
  · by_cases h0' : k' = 0
    · have ht : isTop ⟨k', i', c', t', b', [], .nil⟩ k i c t b cs kids = (k == k', 0) := by unfold isTop; rw [if_pos (.inr h0')]
      rw [ht, show (k == k') = false by simp; omega]
      exact is16in (by omega) hk.2 h0' hE
    · have ht : isTop ⟨k', i', c', t', b', [], .nil⟩ k i c t b cs kids = is1 ⟨k', i', c', t', b', [], .nil⟩ k i c t b cs kids := by unfold isTop; rw [if_neg (by simp [h0, h0'])]
      rw [ht]
      exact is16ii (by omega) hk.2 (by omega) hk'.2 hE hG hS hL h5' hr hd
end Go.Proofs.YtbldidiibkcelaaGreatDoor
