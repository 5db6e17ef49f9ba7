/-
  Is and awake (walks). Not a statement of the seat.
-/
import Derived.Test.YtbldidiibkcelaaGreatDoorEA6
namespace Go.Proofs.YtbldidiibkcelaaGreatDoor
open Go.RowKit

theorem bel_al {w x : World} (h : Below w.heap.size w x) (o : Obj) : Below w.heap.size w (x.alloc o) := h.alloc h.size o
theorem bel_tr {w x y : World} (h : Below w.heap.size w x) (g : Below x.heap.size x y) : Below w.heap.size w y := h.trans (g.mono h.size)
theorem bel_set {w x : World} {v : Nat} (h : Below w.heap.size w x) (hv : w.heap.size ≤ v) (u : Value) : Below w.heap.size w (x.setCell ⟨v, 0, none⟩ u) :=
  (((Kept.of' (N := fun y => y = v) h).put (p := ⟨v, 0, none⟩) u (fun _ => rfl))).below (Nat.le_refl _) (fun y hy e => by omega)
theorem bel_dr {w x : World} (h : Below w.heap.size w x) : Below w.heap.size w x.drew := h.drew
theorem WAt.al {w : World} {p b off : Nat} (h : WAt w p b off) (o : Obj) : WAt (w.alloc o) p b off := h.below ((Below.refl _ _).alloc (Nat.le_refl _) _)
theorem Blk.new' {w : World} {x : Value} {t : TypeId} {v : Nat} (h : v = w.heap.size) : Blk (w.alloc (.cells #[x] t)) v [x] := by subst h; exact Blk.new w #[x] t
theorem Blk.dr {w : World} {v : Nat} {cs : List Value} (h : Blk w v cs) : Blk w.drew v cs := h.below (Below.refl _ _).drew
theorem nw1 (W : World) : (W.alloc (.cells #[.nilIface] 68)).cell? ⟨W.heap.size, 0, none⟩ = some .nilIface := (Blk.new W #[.nilIface] 68).cell 0 rfl
theorem nw2 (W : World) : (W.alloc (.cells #[.nilIface] 68)).frozen? ⟨W.heap.size, 0, none⟩ = false := (Blk.new W #[.nilIface] 68).free 0 (by simp)
theorem nd1 (W : World) : ((W.alloc (.cells #[.nilIface] 68)).alloc (.cells #[.nilIface] 68)).cell? ⟨W.heap.size, 0, none⟩ = some .nilIface := ((Blk.new W #[.nilIface] 68).alloc _).cell 0 rfl
theorem nd2 (W : World) : ((W.alloc (.cells #[.nilIface] 68)).alloc (.cells #[.nilIface] 68)).frozen? ⟨W.heap.size, 0, none⟩ = false := ((Blk.new W #[.nilIface] 68).alloc _).free 0 (by simp)
theorem nd3 (W : World) : ((W.alloc (.cells #[.nilIface] 68)).alloc (.cells #[.nilIface] 68)).cell? ⟨W.heap.size + 1, 0, none⟩ = some .nilIface := (Blk.new' (v := W.heap.size + 1) (by simp)).cell 0 rfl
theorem nd4 (W : World) : ((W.alloc (.cells #[.nilIface] 68)).alloc (.cells #[.nilIface] 68)).frozen? ⟨W.heap.size + 1, 0, none⟩ = false := (Blk.new' (v := W.heap.size + 1) (by simp)).free 0 (by simp)
theorem sz1 (W : World) (o : Obj) : W.heap.size + 1 ≤ (W.alloc o).drew.heap.size := Nat.le_of_eq (by simp [World.drew])
theorem sz2 (W : World) (o o2 : Obj) : W.heap.size + 2 ≤ ((W.alloc o).alloc o2).drew.heap.size := Nat.le_of_eq (by simp [World.drew])
theorem blk_set1 {x : World} {v : Nat} {y u : Value} (h : Blk x v [y]) : Blk (x.setCell ⟨v, 0, none⟩ u) v [u] := h.set (j := 0) u
theorem blk_oth {x : World} {v t : Nat} {cs : List Value} {u : Value} (h : Blk x v cs) (hn : t ≠ v) : Blk (x.setCell ⟨t, 0, none⟩ u) v cs := h.other (p := ⟨t, 0, none⟩) u hn
theorem wat_set {x : World} {z b off v : Nat} {u : Value} (h : WAt x z b off) (hz : z ≠ v) (hb : b ≠ v) : WAt (x.setCell ⟨v, 0, none⟩ u) z b off :=
  h.keep ((Kept.refl (N1 v) x).put (p := ⟨v, 0, none⟩) u (fun _ => rfl)) hz hb
theorem wp_gen67 {P : Program} {c : Code} {Q : Exit → Act → World → Prop} {a : Act} {W : World} {v t : Nat} (J : Nat → Nat → World → Prop) (_ : a.eval (.tmp 6) = .pointer (some ⟨v, 0, none⟩)) (_ : a.eval (.tmp 7) = .pointer (some ⟨t, 0, none⟩))
    (h : J v t W) (k : ∀ wz, J v t wz → c.wp P Q a wz) : c.wp P Q a W := k W h
set_option maxRecDepth 100000 in
set_option maxHeartbeats 8000000 in
theorem is16 {w : World} {b off : Nat} (hP : PAt w b off) :
    Calls Tryz.prog 16 #[W0 (some ⟨b, off, none⟩), P0] w (fun e w' => e = .returned (.tuple #[.bool true, .int .i64 0]) ∧ Below w.heap.size w w') := by
  obtain ⟨h1, h2, hB⟩ := two_facts w 3 1 0 [119] (some ⟨b, off, none⟩) 1
  unfold W0 P0 vE Dt.zero
  go_enter Tryz.func16, Tryz.ntmps16
  go_upto_region 1 with (fail)
  change Code.wp _ _ _ _ (two w 3 1 0 [119] (some ⟨b, off, none⟩) 1)
  generalize two w 3 1 0 [119] (some ⟨b, off, none⟩) 1 = w1 at *
  obtain ⟨q, hq⟩ : ∃ x, x = w.heap.size + 1 := ⟨_, rfl⟩
  obtain ⟨p, hp⟩ : ∃ x, x = w.heap.size := ⟨_, rfl⟩
  rw [← hq] at h2
  rw [← hp] at h1
  rw [← hq, ← hp]
  have HB := Lib.hid hB
  have HK := Lib.hid (show ∀ wx, Below w1.heap.size w1 wx → ((wx.cell? ⟨p, 0, none⟩ = some (.int .i64 3) ∧ wx.cell? ⟨p, 1, none⟩ = some (.int .i64 1) ∧ wx.cell? ⟨p, 2, none⟩ = some (.int .i64 0) ∧ wx.cell? ⟨p, 3, none⟩ = some (.string ⟨#[119]⟩) ∧ wx.cell? ⟨p, 4, none⟩ = some (.int .i64 0) ∧ wx.cell? ⟨p, 5, none⟩ = some (.int .i64 0) ∧ wx.cell? ⟨p, 6, none⟩ = some (.int .u64 0) ∧ wx.cell? ⟨p, 7, none⟩ = some (.string ⟨#[]⟩) ∧ wx.cell? ⟨p, 8, none⟩ = some (.slice none 0 0) ∧ wx.cell? ⟨p, 9, none⟩ = some (.slice none 0 0) ∧ wx.cell? ⟨p, 10, none⟩ = some (.slice (some ⟨b, off, none⟩) 1 1)) ∧ (wx.cell? ⟨q, 0, none⟩ = some (.int .i64 1) ∧ wx.cell? ⟨q, 1, none⟩ = some (.int .i64 0) ∧ wx.cell? ⟨q, 2, none⟩ = some (.int .i64 5) ∧ wx.cell? ⟨q, 3, none⟩ = some (.string ⟨#[112]⟩) ∧ wx.cell? ⟨q, 4, none⟩ = some (.int .i64 0) ∧ wx.cell? ⟨q, 5, none⟩ = some (.int .i64 0) ∧ wx.cell? ⟨q, 6, none⟩ = some (.int .u64 0) ∧ wx.cell? ⟨q, 7, none⟩ = some (.string ⟨#[]⟩) ∧ wx.cell? ⟨q, 8, none⟩ = some (.slice none 0 0) ∧ wx.cell? ⟨q, 9, none⟩ = some (.slice none 0 0) ∧ wx.cell? ⟨q, 10, none⟩ = some (.slice none 0 0))) from fun wx hx => by
    have a := h1.below hx
    have c := h2.below hx
    exact ⟨⟨a.cell 0 rfl, a.cell 1 rfl, a.cell 2 rfl, a.cell 3 rfl, a.cell 4 rfl, a.cell 5 rfl, a.cell 6 rfl, a.cell 7 rfl, a.cell 8 rfl, a.cell 9 rfl, a.cell 10 rfl⟩, ⟨c.cell 0 rfl, c.cell 1 rfl, c.cell 2 rfl, c.cell 3 rfl, c.cell 4 rfl, c.cell 5 rfl, c.cell 6 rfl, c.cell 7 rfl, c.cell 8 rfl, c.cell 9 rfl, c.cell 10 rfl⟩⟩)
  have HC1 := Lib.hid (fun (wx : World) (hx : Below w1.heap.size w1 wx) => valueW ((hP.below hB).below hx))
  have HC2 := Lib.hid (fun (wx : World) => valueP wx)
  have HT := Lib.hid h2
  have HCC := Lib.hid (fun (wx : World) (vb tb tt z : Nat) (h1 : Blk wx vb [IW z]) (h2 : WAt wx z b off) (h3 : Blk wx tb VP0) => compared41 (tt := tt) h1 h2 h3)
  unfold F51 IW at HCC
  have hbl : b < w1.heap.size := Nat.lt_of_lt_of_le hP.1 hB.size
  unfold W0 vE Dt.zero IW at HC1
  unfold P0 vE Dt.zero at HC2
  have n1 := fun W => nw1 W
  have n2 := fun W => nw2 W
  have d1 := fun W => nd1 W
  have d2 := fun W => nd2 W
  have d3 := fun W => nd3 W
  have d4 := fun W => nd4 W
  clear h1 h2 hB hP hq hp
  go_region_held3 (fun wx : World => (wx.cell? ⟨p, 0, none⟩ = some (.int .i64 3) ∧ wx.cell? ⟨p, 1, none⟩ = some (.int .i64 1) ∧ wx.cell? ⟨p, 2, none⟩ = some (.int .i64 0) ∧ wx.cell? ⟨p, 3, none⟩ = some (.string ⟨#[119]⟩) ∧ wx.cell? ⟨p, 4, none⟩ = some (.int .i64 0) ∧ wx.cell? ⟨p, 5, none⟩ = some (.int .i64 0) ∧ wx.cell? ⟨p, 6, none⟩ = some (.int .u64 0) ∧ wx.cell? ⟨p, 7, none⟩ = some (.string ⟨#[]⟩) ∧ wx.cell? ⟨p, 8, none⟩ = some (.slice none 0 0) ∧ wx.cell? ⟨p, 9, none⟩ = some (.slice none 0 0) ∧ wx.cell? ⟨p, 10, none⟩ = some (.slice (some ⟨b, off, none⟩) 1 1)) ∧ (wx.cell? ⟨q, 0, none⟩ = some (.int .i64 1) ∧ wx.cell? ⟨q, 1, none⟩ = some (.int .i64 0) ∧ wx.cell? ⟨q, 2, none⟩ = some (.int .i64 5) ∧ wx.cell? ⟨q, 3, none⟩ = some (.string ⟨#[112]⟩) ∧ wx.cell? ⟨q, 4, none⟩ = some (.int .i64 0) ∧ wx.cell? ⟨q, 5, none⟩ = some (.int .i64 0) ∧ wx.cell? ⟨q, 6, none⟩ = some (.int .u64 0) ∧ wx.cell? ⟨q, 7, none⟩ = some (.string ⟨#[]⟩) ∧ wx.cell? ⟨q, 8, none⟩ = some (.slice none 0 0) ∧ wx.cell? ⟨q, 9, none⟩ = some (.slice none 0 0) ∧ wx.cell? ⟨q, 10, none⟩ = some (.slice none 0 0)))
    (first | exact HK.out _ (Below.refl _ _) | exact HK.out _ (by with_reducible repeat (first | exact Below.refl _ _ | exact HB3.out | exact HB2.out | refine bel_al ?_ _ | refine bel_dr ?_ | refine bel_set ?_ ?_ _ | omega)))
    (first
      | (go_simp; go_at_call 50; (with_reducible refine (HC1.out (w1.drew) ((Below.refl _ w1).drew)).mono ?_); rintro eA wA ⟨z, rfl, hW, hBA, hz1, hz2⟩; have HB2 := Lib.hid (show Below w1.heap.size w1 wA from bel_tr ((Below.refl _ w1).drew) hBA); have HW2 := Lib.hid hW; have hsA := HB2.out.size; have hzA : w1.heap.size ≤ z := hz1; have hzB : z < wA.heap.size := hz2; clear hBA hW hz1 hz2)
      | (go_simp; go_at_call 50; (with_reducible refine (HC1.out ((w1.alloc (.cells #[.nilIface] 68)).drew) (bel_dr (bel_al (Below.refl _ w1) _))).mono ?_); rintro eA wA ⟨z, rfl, hW, hBA, hz1, hz2⟩; have HB2 := Lib.hid (show Below w1.heap.size w1 wA from bel_tr (bel_dr (bel_al (Below.refl _ w1) _)) hBA); have HW2 := Lib.hid hW; have qah := (((Blk.new w1 #[.nilIface] 68).dr).below hBA : Blk wA w1.heap.size [.nilIface]); have qa0 := qah.cell 0 rfl; have qa1 := qah.free 0 (by simp); have qa2 := qah.1; have QA := Lib.hid qah; clear qah; have hsA := HB2.out.size; have hzA : w1.heap.size + 1 ≤ z := Nat.le_trans (sz1 w1 _) hz1; have hzB : z < wA.heap.size := hz2; clear hBA hW hz1 hz2)
      | (go_simp; go_at_call 50; (with_reducible refine (HC1.out (((w1.alloc (.cells #[.nilIface] 68)).alloc (.cells #[.nilIface] 68)).drew) (bel_dr (bel_al (bel_al (Below.refl _ w1) _) _))).mono ?_); rintro eA wA ⟨z, rfl, hW, hBA, hz1, hz2⟩; have HB2 := Lib.hid (show Below w1.heap.size w1 wA from bel_tr (bel_dr (bel_al (bel_al (Below.refl _ w1) _) _)) hBA); have HW2 := Lib.hid hW; have qah := ((((Blk.new w1 #[.nilIface] 68).alloc _).dr).below hBA : Blk wA w1.heap.size [.nilIface]); have qa0 := qah.cell 0 rfl; have qa1 := qah.free 0 (by simp); have qa2 := qah.1; have QA := Lib.hid qah; clear qah; have qbh := (((Blk.new' (w := w1.alloc (.cells #[.nilIface] 68)) (x := .nilIface) (t := 68) (v := w1.heap.size + 1) (by simp)).dr).below hBA : Blk wA (w1.heap.size + 1) [.nilIface]); have qb0 := qbh.cell 0 rfl; have qb1 := qbh.free 0 (by simp); have qb2 := qbh.1; have QB := Lib.hid qbh; clear qbh; have hsA := HB2.out.size; have hzA : w1.heap.size + 2 ≤ z := Nat.le_trans (sz2 w1 _ _) hz1; have hzB : z < wA.heap.size := hz2; clear hBA hW hz1 hz2)
      | (go_simp; go_at_call 50; (with_reducible refine (HC2.out (wA)).mono ?_); rintro eB wB ⟨rfl, hBB⟩; have HB3 := Lib.hid (show Below w1.heap.size w1 wB from bel_tr HB2.out (bel_tr (Below.refl _ wA) hBB)); have HW3 := Lib.hid (HW2.out.below (bel_tr (Below.refl _ wA) hBB)); have rah := QA.out.below (bel_tr (Below.refl _ wA) hBB); have ra0 := rah.cell 0 rfl; have ra1 := rah.free 0 (by simp); have ra2 := rah.1; have RA := Lib.hid rah; clear rah; have rbh := QB.out.below (bel_tr (Below.refl _ wA) hBB); have rb0 := rbh.cell 0 rfl; have rb1 := rbh.free 0 (by simp); have rb2 := rbh.1; have RB := Lib.hid rbh; clear rbh; have hsB := HB3.out.size; clear hBB qa0 qa1 qb0 qb1)
      | (go_simp; go_at_call 50; (with_reducible refine (HC2.out ((wA.alloc (.cells #[.nilIface] 68)))).mono ?_); rintro eB wB ⟨rfl, hBB⟩; have HB3 := Lib.hid (show Below w1.heap.size w1 wB from bel_tr HB2.out (bel_tr (bel_al (Below.refl _ wA) _) hBB)); have HW3 := Lib.hid (HW2.out.below (bel_tr (bel_al (Below.refl _ wA) _) hBB)); have rah := QA.out.below (bel_tr (bel_al (Below.refl _ wA) _) hBB); have ra0 := rah.cell 0 rfl; have ra1 := rah.free 0 (by simp); have ra2 := rah.1; have RA := Lib.hid rah; clear rah; have rch := ((Blk.new wA #[.nilIface] 68).below hBB : Blk wB wA.heap.size [.nilIface]); have rc0 := rch.cell 0 rfl; have rc1 := rch.free 0 (by simp); have rc2 := rch.1; have RC := Lib.hid rch; clear rch; have hsB := HB3.out.size; clear hBB qa0 qa1)
      | (go_simp; go_at_call 50; (with_reducible refine (HC2.out (wA)).mono ?_); rintro eB wB ⟨rfl, hBB⟩; have HB3 := Lib.hid (show Below w1.heap.size w1 wB from bel_tr HB2.out (bel_tr (Below.refl _ wA) hBB)); have HW3 := Lib.hid (HW2.out.below (bel_tr (Below.refl _ wA) hBB)); have rah := QA.out.below (bel_tr (Below.refl _ wA) hBB); have ra0 := rah.cell 0 rfl; have ra1 := rah.free 0 (by simp); have ra2 := rah.1; have RA := Lib.hid rah; clear rah; have hsB := HB3.out.size; clear hBB qa0 qa1)
      | (go_simp; go_at_call 50; (with_reducible refine (HC2.out (((wA.alloc (.cells #[.nilIface] 68)).alloc (.cells #[.nilIface] 68)))).mono ?_); rintro eB wB ⟨rfl, hBB⟩; have HB3 := Lib.hid (show Below w1.heap.size w1 wB from bel_tr HB2.out (bel_tr (bel_al (bel_al (Below.refl _ wA) _) _) hBB)); have HW3 := Lib.hid (HW2.out.below (bel_tr (bel_al (bel_al (Below.refl _ wA) _) _) hBB)); have rch := (((Blk.new wA #[.nilIface] 68).alloc _).below hBB : Blk wB wA.heap.size [.nilIface]); have rc0 := rch.cell 0 rfl; have rc1 := rch.free 0 (by simp); have rc2 := rch.1; have RC := Lib.hid rch; clear rch; have rdh := ((Blk.new' (w := wA.alloc (.cells #[.nilIface] 68)) (x := .nilIface) (t := 68) (v := wA.heap.size + 1) (by simp)).below hBB : Blk wB (wA.heap.size + 1) [.nilIface]); have rd0 := rdh.cell 0 rfl; have rd1 := rdh.free 0 (by simp); have rd2 := rdh.1; have RD := Lib.hid rdh; clear rdh; have hsB := HB3.out.size; clear hBB)
      | (go_simp; go_at_call 50; (with_reducible refine (HC2.out ((wA.alloc (.cells #[.nilIface] 68)))).mono ?_); rintro eB wB ⟨rfl, hBB⟩; have HB3 := Lib.hid (show Below w1.heap.size w1 wB from bel_tr HB2.out (bel_tr (bel_al (Below.refl _ wA) _) hBB)); have HW3 := Lib.hid (HW2.out.below (bel_tr (bel_al (Below.refl _ wA) _) hBB)); have rch := ((Blk.new wA #[.nilIface] 68).below hBB : Blk wB wA.heap.size [.nilIface]); have rc0 := rch.cell 0 rfl; have rc1 := rch.free 0 (by simp); have rc2 := rch.1; have RC := Lib.hid rch; clear rch; have hsB := HB3.out.size; clear hBB)
      | (go_simp; go_at_call 50; (with_reducible refine (HC2.out (wA)).mono ?_); rintro eB wB ⟨rfl, hBB⟩; have HB3 := Lib.hid (show Below w1.heap.size w1 wB from bel_tr HB2.out (bel_tr (Below.refl _ wA) hBB)); have HW3 := Lib.hid (HW2.out.below (bel_tr (Below.refl _ wA) hBB)); have hsB := HB3.out.size; clear hBB))
  all_goals
    go_upto_region 2 with fail
    refine wp_gen67 (J := fun v t wz => Blk wz v [.iface 102 (.pointer (some ⟨z, 0, none⟩))] ∧ Blk wz t [.iface 101 (.agg #[.int .i64 5, .string ⟨#[112]⟩])] ∧ WAt wz z b off ∧ Below w1.heap.size w1 wz) rfl rfl ⟨?_, ?_, ?_, ?_⟩ ?_
    · with_reducible repeat (first | exact RA.out | exact RB.out | exact RC.out | exact RD.out | exact Blk.new' (by simp) | refine blk_set1 (y := .nilIface) ?_ | refine blk_oth ?_ ?_ | refine Blk.alloc ?_ _ | omega)
    · with_reducible repeat (first | exact RA.out | exact RB.out | exact RC.out | exact RD.out | exact Blk.new' (by simp) | refine blk_set1 (y := .nilIface) ?_ | refine blk_oth ?_ ?_ | refine Blk.alloc ?_ _ | omega)
    · with_reducible repeat (first | exact HW3.out | refine WAt.al ?_ _ | refine wat_set ?_ ?_ ?_ | omega)
    · with_reducible repeat (first | exact HB3.out | refine bel_al ?_ _ | refine bel_set ?_ ?_ _ | omega)
    · rintro wz ⟨hv, ht, hw, hb⟩
      have v0 := hv.cell 0 rfl
      have t0 := ht.cell 0 rfl
      have HV := Lib.hid hv
      have HWZ := Lib.hid hw
      have HBZ := Lib.hid hb
      clear hv ht hw hb
      go_wp2_with (go_at_call 41; (with_reducible refine (HCC.out _ _ _ _ _ HV.out HWZ.out (HT.out.below HBZ.out)).mono ?_); rintro e5 w5 ⟨rfl, hB5⟩; have HB5 := Lib.hid hB5; clear hB5)
      go_ret2
      exact ⟨rfl, HB.out.trans ((HBZ.out.trans (HB5.out.mono HBZ.out.size)).mono HB.out.size)⟩
end Go.Proofs.YtbldidiibkcelaaGreatDoor
