/-
  ErrsFirst (walk): the law. Not a statement of the seat.
-/
import Derived.Test.YtbldidiibkcelaaGreatDoorPEAs6
import Derived.Test.YtbldidiibkcelaaGreatDoorPEWalk29
import Derived.Test.YtbldidiibkcelaaGreatDoorPEFAt
import Derived.Deep.Cut
import Derived.Deep.CutRange
namespace Go.Proofs.YtbldidiibkcelaaGreatDoor
open Go.RowKit

def FsRel (m fc : Int) (L : List (List Int × Et)) (w7 : World) (t36 t11 t12 : Value) (wr : World) : Prop :=
  ∃ j : Nat, t36 = .int .i64 (j : Nat) ∧ j ≤ L.length ∧ t11 = .bool ((L.take j).findSome? (fun p => hitA m p.2)).isSome ∧ t12 = .bool ((L.take j).findSome? (fun p => hitFc fc p.2)).isSome ∧ Below w7.heap.size w7 wr
theorem wnL_right : ∀ (f : Eo) (j : Nat) (m : Bool) (p : List Int × Et), rrightL m f = true → p ∈ wnL f j → rightE p.2 = true
  | .nil, _, _, _, _, h => by cases h
  | .cons k i c t b cs ks rest, j, m, p, hr, h => by
    rw [wnL, List.mem_append, List.mem_map] at h
    have hk : rightE ⟨k, i, c, t, b, cs, ks⟩ = true := right_head hr
    rcases h with ⟨p', h1, rfl⟩ | h
    · split at h1
      · cases h1
      · rcases List.mem_cons.1 h1 with rfl | h1
        · exact hk
        · unfold rightE rright1 at hk
          rw [Bool.and_eq_true] at hk
          exact wnL_right ks 0 _ p' hk.2 h1
    · rw [rrightL, Bool.and_eq_true] at hr
      exact wnL_right rest (j + 1) m p hr.2 h
theorem wn1_right {e : Et} {p : List Int × Et} (hr : rightE e = true) (h : p ∈ wn1 e) : rightE p.2 = true := by
  unfold wn1 at h
  split at h
  · cases h
  · rcases List.mem_cons.1 h with rfl | h
    · exact hr
    · unfold rightE rright1 at hr
      rw [Bool.and_eq_true] at hr
      exact wnL_right e.l 0 _ p hr.2 h
/-- is it of the type -/
def tyK (m k : Int) : Bool := k == m || ((k == 7 && m == 2) || (k == 2 && m == 7))
theorem tyK_hit {m : Int} {x : Et} (h1 : 1 ≤ x.k) (h2 : x.k ≤ 10) (h : tyK m x.k = true) : hitA m x = some x := by
  unfold tyK at h
  simp only [Bool.or_eq_true, Bool.and_eq_true, beq_iff_eq] at h
  unfold hitA
  rw [if_neg (by omega), if_pos (by unfold ktM; split <;> split <;> omega)]
theorem tyK_nine {m : Int} {x : Et} (h9 : x.k = 9 ∧ m = 1) : hitA m x = some ⟨1, 0, x.c, x.t, Dt.zero, [], .nil⟩ := by
  unfold hitA
  rw [if_neg (by omega), if_neg (by unfold ktM; rw [if_neg (by omega), if_neg (by omega)]; omega), if_pos h9]
theorem tyK_none {m : Int} {x : Et} (h : tyK m x.k = false) (h9 : ¬ (x.k = 9 ∧ m = 1)) : hitA m x = none := by
  unfold tyK at h
  simp only [Bool.or_eq_false_iff, Bool.and_eq_false_iff, beq_eq_false_iff_ne] at h
  have hkt : ¬ ktM x.k = ktM m := by unfold ktM; split <;> split <;> omega
  unfold hitA
  by_cases hm : m ≤ 0 ∨ 11 ≤ m
  · rw [if_pos hm]
  · rw [if_neg hm, if_neg hkt, if_neg h9]
set_option maxRecDepth 100000 in
set_option maxHeartbeats 32000000 in
theorem errsFirstT {S : Nat → Prop} {e : Et} {bl : Option Addr} {bn bc : Nat} {cl : Option Addr} {cn cc : Nat} {l : Option Addr} {n cap : Nat} {m fc : Int} {w : World}
    (hE : ErAt S w e bl bn bc cl cn cc l n cap) (hS : ∀ x, S x → x < w.heap.size) (hcs : e.cs.length ≤ 140737488355328) (hks : e.l.small) (hg : w.cell? ⟨1, 0, none⟩ = some (rty 68)) :
    Calls Tryz.prog 9 #[vE e.k e.i e.c e.t e.b bl bn bc cl cn cc l n cap, .int .i64 m, .int .i64 fc] w (fun r w' => r = .returned (.bool true) ∧ Below w.heap.size w w') := by
  have hEx : ∀ wx, Below w.heap.size w wx → ErAt S wx e bl bn bc cl cn cc l n cap := fun wx hx => hE.same (fun x _ hlt => hx.block x hlt) (fun x hx _ => hx)
  have hSx : ∀ wx, Below w.heap.size w wx → ∀ x, S x → x < wx.heap.size := fun wx hx x hx' => Nat.lt_of_lt_of_le (hS x hx') hx.size
  have hlt := World.block_lt_of_cell? _ _ hg
  have HGX := Lib.hid (show ∀ wx, Below w.heap.size w wx → wx.cell? ⟨1, 0, none⟩ = some (rty 68) from fun wx hx => (World.cell?_of_block (a := ⟨1, 0, none⟩) (hx.block 1 hlt)).trans hg)
  have HV1 := Lib.hid (fun (wx : World) (hx : Below w.heap.size w wx) => show Calls Tryz.prog 10 #[vE e.k e.i e.c e.t e.b bl bn bc cl cn cc l n cap] wx (fun r w' => r = .returned (.bool (ervalidM e)) ∧ Below wx.heap.size wx w') from ervalidN (hEx wx hx) (hSx wx hx) hcs hks)
  have HW := Lib.hid (fun (wx : World) => awakeT wx)
  have hA := ebox_blk w e.k e.i e.c e.t e.b bl bn bc cl cn cc l n cap
  have hB := ebox_below w e.k e.i e.c e.t e.b bl bn bc cl cn cc l n cap
  have hs1 := ebox_size w e.k e.i e.c e.t e.b bl bn bc cl cn cc l n cap
  have hok := (ervalid_ok e).1
  unfold vE at HV1 ⊢
  go_enter Tryz.func9, Tryz.ntmps9
  go_upto_region 1 with (fail)
  change Code.wp _ _ _ _ (ebox w e.k e.i e.c e.t e.b bl bn bc cl cn cc l n cap)
  generalize ebox w e.k e.i e.c e.t e.b bl bn bc cl cn cc l n cap = w1 at *
  obtain ⟨p, hp⟩ : ∃ x, x = w.heap.size := ⟨_, rfl⟩
  rw [← hp] at hA
  rw [← hp]
  have x0 := hA.cell 0 rfl
  have x1 := hA.cell 1 rfl
  have x2 := hA.cell 2 rfl
  have x3 := hA.cell 3 rfl
  have x4 := hA.cell 4 rfl
  have x5 := hA.cell 5 rfl
  have x6 := hA.cell 6 rfl
  have x7 := hA.cell 7 rfl
  have x8 := hA.cell 8 rfl
  have x9 := hA.cell 9 rfl
  have x10 := hA.cell 10 rfl
  have HB := Lib.hid hB
  have HA := Lib.hid hA
  generalize ervalidM e = v1 at *
  clear hA hB hp hs1 hlt hg
  cases v1
  · go_wp2_with (first
      | (go_at_call 10; (with_reducible refine (HV1.out _ HB.out).mono ?_); rintro r2 w2 ⟨rfl, hB⟩; have HB2 := Lib.hid (bel_tr HB.out hB); clear hB)
      | (go_at_call 11; (with_reducible refine (HW.out _).mono ?_); rintro r3 w3 ⟨rfl, hB⟩; have HB3 := Lib.hid (bel_tr HB2.out hB); clear hB))
    go_ret
    exact ⟨rfl, HB3.out⟩
  have hokE := hok rfl
  clear hok
  obtain ⟨k, i, c, t, b, cs, kids⟩ := e
  have hRt : rightE ⟨k, i, c, t, b, cs, kids⟩ = true := hokE.2.2.1
  have hOS := hokE.okS
  have hd16 : ehi kids ≤ 16 := by have := hokE.2.1; dsimp only at this; omega
  have hz1 : 1 + esz kids ≤ 4096 := hokE.1
  -- all later worlds
  have HKEY := Lib.hid (show ∀ wx, Below w1.heap.size w1 wx → Blk wx p (V11 k i c t b bl bn bc cl cn cc l n cap) ∧ ErAt (fun x => x < wx.heap.size) wx ⟨k, i, c, t, b, cs, kids⟩ bl bn bc cl cn cc l n cap ∧ wx.cell? ⟨1, 0, none⟩ = some (rty 68) from
    fun wx hx => ⟨HA.out.below hx, (hEx wx (bel_tr HB.out hx)).lt, HGX.out wx (bel_tr HB.out hx)⟩)
  have HC32 := Lib.hid (fun (wx : World) (hx : Below w1.heap.size w1 wx) => as32 (m := m) (HKEY.out wx hx).2.2 (HKEY.out wx hx).2.1 (fun _ h => h) hRt hOS)
  have HC35 := Lib.hid (fun (wx : World) (hx : Below w1.heap.size w1 wx) => asface35 (m := fc) (HKEY.out wx hx).2.1 (fun _ h => h) hRt hOS (by omega))
  have HC29 := Lib.hid (fun (wx : World) (hx : Below w1.heap.size w1 wx) => walk29 (HKEY.out wx hx).2.1 (fun _ h => h) hRt (by omega) (by omega))
  have HRT := Lib.hid hRt
  have HS15 := Lib.hid (fun (x : Et) (wx : World) (b1 : Option Addr) (b2 b3 : Nat) (c1 : Option Addr) (c2 c3 : Nat) (l1 : Option Addr) (l2 l3 : Nat) (d1 : Option Addr) (d2 d3 : Nat) (e1 : Option Addr) (e2 e3 : Nat) (g1 : Option Addr) (g2 g3 : Nat) (h1 : ErAt (fun y => y < wx.heap.size) wx x b1 b2 b3 c1 c2 c3 l1 l2 l3) (h2 : ErAt (fun y => y < wx.heap.size) wx x d1 d2 d3 e1 e2 e3 g1 g2 g3) =>
    (show Calls Tryz.prog 15 #[vE x.k x.i x.c x.t x.b b1 b2 b3 c1 c2 c3 l1 l2 l3, vE x.k x.i x.c x.t x.b d1 d2 d3 e1 e2 e3 g1 g2 g3] wx (fun e w' => e = .returned (.bool true) ∧ Below wx.heap.size wx w') from by
      have h := ersameG x.l x.l x.k x.i x.c x.k x.i x.c x.t x.t x.b x.b x.cs x.cs b1 b2 b3 c1 c2 c3 l1 l2 l3 d1 d2 d3 e1 e2 e3 g1 g2 g3 (fun y => y < wx.heap.size) wx h1 h2 (fun _ h => h)
      rw [esame1_refl] at h
      exact h))
  clear hEx hSx hE hS hokE hRt hOS hd16 hz1 hcs hks
  rw [as1_find m ⟨k, i, c, t, b, cs, kids⟩] at HC32
  rw [fnd1_find fc ⟨k, i, c, t, b, cs, kids⟩] at HC35
  have HWF := Lib.hid (show ways1 k kids = (wn1 ⟨k, i, c, t, b, cs, kids⟩).map (·.1) from (wn1_fst ⟨k, i, c, t, b, cs, kids⟩).symm)
  have HWA := Lib.hid (fun (p : List Int × Et) (h : p ∈ wn1 ⟨k, i, c, t, b, cs, kids⟩) => And.intro (wn1_at h) (wn1_right HRT.out h))
  generalize wn1 ⟨k, i, c, t, b, cs, kids⟩ = L at *
  have HAE := Lib.hid (show ∃ o, o = L.findSome? (fun p => hitA m p.2) from ⟨_, rfl⟩)
  obtain ⟨oA, hoA⟩ := HAE.out
  obtain ⟨oF, hoF⟩ : ∃ o, o = L.findSome? (fun p => hitFc fc p.2) := ⟨_, rfl⟩
  rw [← hoA] at HC32
  rw [← hoF] at HC35
  obtain ⟨fA, hfA⟩ : ∃ x, x = oA.isSome := ⟨_, rfl⟩
  obtain ⟨fF, hfF⟩ : ∃ x, x = oF.isSome := ⟨_, rfl⟩
  obtain ⟨A, hA⟩ : ∃ x, x = oA.getD Et.zero := ⟨_, rfl⟩
  obtain ⟨F, hF⟩ : ∃ x, x = oF.getD Et.zero := ⟨_, rfl⟩
  rw [← hfA, ← hA] at HC32
  rw [← hfF, ← hF] at HC35
  -- what a beginning of the row that has found tells
  have HFA := Lib.hid (show ∀ (j : Nat) (y : Et), (L.take j).findSome? (fun p => hitA m p.2) = some y → fA = true ∧ A = y from fun j y h => by
    have h2 := findSome_later _ L h
    rw [h2] at hoA
    subst hoA
    exact ⟨hfA, hA⟩)
  have HFF := Lib.hid (show ∀ (j : Nat) (y : Et), (L.take j).findSome? (fun p => hitFc fc p.2) = some y → fF = true ∧ F = y from fun j y h => by
    have h2 := findSome_later _ L h
    rw [h2] at hoF
    subst hoF
    exact ⟨hfF, hF⟩)
  have HEND := Lib.hid (show ((L.take L.length).findSome? (fun p => hitA m p.2)).isSome = fA ∧ ((L.take L.length).findSome? (fun p => hitFc fc p.2)).isSome = fF from by
    rw [List.take_length]
    exact ⟨by rw [← hoA, hfA], by rw [← hoF, hfF]⟩)
  clear HAE hoA hoF hfA hfF hA hF oA oF HRT HGX
  unfold vE at HC32 HC35 HC29
  obtain ⟨ak, ai, ac, aT, aB, acs, aL⟩ := A
  obtain ⟨fk, fi, fC, fT, fB, fcs, fL⟩ := F
  dsimp only at HC32 HC35
  go_upto_region 4 with (first
    | (go_at_call 10; (with_reducible refine (HV1.out _ HB.out).mono ?_); rintro r2 w2 ⟨rfl, hB⟩; have HB2 := Lib.hid hB; replace x0 := cellAt hB x0; replace x1 := cellAt hB x1; replace x2 := cellAt hB x2; replace x3 := cellAt hB x3; replace x4 := cellAt hB x4; replace x5 := cellAt hB x5; replace x6 := cellAt hB x6; replace x7 := cellAt hB x7; replace x8 := cellAt hB x8; replace x9 := cellAt hB x9; replace x10 := cellAt hB x10; clear hB)
    | (go_at_call 32; (with_reducible refine (HC32.out _ HB2.out).mono ?_); intro r3 w3 h3; obtain ⟨a1, a2, a3, b1, b2, b3, d1, d2, d3, vs, rfl, hF3, hC3, ⟨hR3, hT3⟩, hB3⟩ := CLT.ahead h3; unfold vE; have HB3 := Lib.hid (bel_tr HB2.out hB3); have HE3 := Lib.hid (show ErAt (fun y => y < w3.heap.size) w3 ⟨ak, ai, ac, aT, aB, acs, aL⟩ a1 a2 a3 b1 b2 b3 d1 d2 d3 from (show ErAt (fun y => w2.heap.size ≤ y) w3 ⟨ak, ai, ac, aT, aB, acs, aL⟩ a1 a2 a3 b1 b2 b3 d1 d2 d3 from ⟨hF3, ⟨hC3.rd, fun x _ hx => (hC3.lt x hx).1⟩, vs, ⟨hR3.rd, fun x _ hx => (hR3.lt x hx).1⟩, EAt.same _ hT3 (fun _ _ _ => rfl) (fun x hx _ => hx.1)⟩).lt); clear h3 hF3 hC3 hR3 hT3 hB3))
  change Code.wp _ _ _ _ (ebox w3 ak ai ac aT aB a1 a2 a3 b1 b2 b3 d1 d2 d3)
  have hA4 := ebox_blk w3 ak ai ac aT aB a1 a2 a3 b1 b2 b3 d1 d2 d3
  have hB4 := ebox_below w3 ak ai ac aT aB a1 a2 a3 b1 b2 b3 d1 d2 d3
  generalize ebox w3 ak ai ac aT aB a1 a2 a3 b1 b2 b3 d1 d2 d3 = w4 at *
  obtain ⟨a, ha⟩ : ∃ x, x = w3.heap.size := ⟨_, rfl⟩
  rw [← ha] at hA4
  rw [← ha]
  have HB4 := Lib.hid (bel_tr HB3.out hB4)
  have HA4 := Lib.hid hA4
  have HE4 := Lib.hid (HE3.out.same (w' := w4) (fun x _ hlt => hB4.block x hlt) (fun x hx' _ => hx')).lt
  clear hA4 hB4 ha x0 x1 x2 x3 x4 x5 x6 x7 x8 x9 x10 HE3
  have HP4 := Lib.hid (HKEY.out w4 HB4.out).1
  have x0 := HP4.out.cell 0 rfl
  have x1 := HP4.out.cell 1 rfl
  have x2 := HP4.out.cell 2 rfl
  have x3 := HP4.out.cell 3 rfl
  have x4 := HP4.out.cell 4 rfl
  have x5 := HP4.out.cell 5 rfl
  have x6 := HP4.out.cell 6 rfl
  have x7 := HP4.out.cell 7 rfl
  have x8 := HP4.out.cell 8 rfl
  have x9 := HP4.out.cell 9 rfl
  have x10 := HP4.out.cell 10 rfl
  go_upto_region 5 with (go_at_call 35; (with_reducible refine (HC35.out _ HB4.out).mono ?_); intro r3 w5 h3; obtain ⟨e1, e2, e3, f1, f2, f3, g1, g2, g3, us, rfl, hF3, hC3, ⟨hR3, hT3⟩, hB3⟩ := CLT.ahead h3; unfold vE; have HB5 := Lib.hid (bel_tr HB4.out hB3); have HB45 := Lib.hid hB3; have HE5 := Lib.hid (show ErAt (fun y => y < w5.heap.size) w5 ⟨fk, fi, fC, fT, fB, fcs, fL⟩ e1 e2 e3 f1 f2 f3 g1 g2 g3 from (show ErAt (fun y => w4.heap.size ≤ y) w5 ⟨fk, fi, fC, fT, fB, fcs, fL⟩ e1 e2 e3 f1 f2 f3 g1 g2 g3 from ⟨hF3, ⟨hC3.rd, fun x _ hx => (hC3.lt x hx).1⟩, us, ⟨hR3.rd, fun x _ hx => (hR3.lt x hx).1⟩, EAt.same _ hT3 (fun _ _ _ => rfl) (fun x hx _ => hx.1)⟩).lt); clear h3 hF3 hC3 hR3 hT3 hB3)
  change Code.wp _ _ _ _ (ebox w5 fk fi fC fT fB e1 e2 e3 f1 f2 f3 g1 g2 g3)
  have hA6 := ebox_blk w5 fk fi fC fT fB e1 e2 e3 f1 f2 f3 g1 g2 g3
  have hB6 := ebox_below w5 fk fi fC fT fB e1 e2 e3 f1 f2 f3 g1 g2 g3
  generalize ebox w5 fk fi fC fT fB e1 e2 e3 f1 f2 f3 g1 g2 g3 = w6 at *
  obtain ⟨q, hq⟩ : ∃ x, x = w5.heap.size := ⟨_, rfl⟩
  rw [← hq] at hA6
  rw [← hq]
  have HB6 := Lib.hid (bel_tr HB5.out hB6)
  have HA6 := Lib.hid hA6
  have hB46 := bel_tr HB45.out hB6
  have HE46 := Lib.hid (HE4.out.same (w' := w6) (fun x _ hlt => hB46.block x hlt) (fun x hx' _ => hx')).lt
  have HE6 := Lib.hid (HE5.out.same (w' := w6) (fun x _ hlt => hB6.block x hlt) (fun x hx' _ => hx')).lt
  have HA46 := Lib.hid (HA4.out.below hB46)
  have hP6 := (HKEY.out w6 HB6.out).1
  have HPQ := Lib.hid (show ∀ wx, Below w6.heap.size w6 wx → Blk wx p (V11 k i c t b bl bn bc cl cn cc l n cap) ∧ Blk wx a (V11 ak ai ac aT aB a1 a2 a3 b1 b2 b3 d1 d2 d3) ∧ Blk wx q (V11 fk fi fC fT fB e1 e2 e3 f1 f2 f3 g1 g2 g3) ∧ ErAt (fun y => y < wx.heap.size) wx ⟨ak, ai, ac, aT, aB, acs, aL⟩ a1 a2 a3 b1 b2 b3 d1 d2 d3 ∧ ErAt (fun y => y < wx.heap.size) wx ⟨fk, fi, fC, fT, fB, fcs, fL⟩ e1 e2 e3 f1 f2 f3 g1 g2 g3 ∧ ErAt (fun y => y < wx.heap.size) wx ⟨k, i, c, t, b, cs, kids⟩ bl bn bc cl cn cc l n cap from
    fun wx hx => ⟨hP6.below hx, HA46.out.below hx, HA6.out.below hx, (HE46.out.same (w' := wx) (fun x _ hlt => hx.block x hlt) (fun x hx' _ => hx')).lt, (HE6.out.same (w' := wx) (fun x _ hlt => hx.block x hlt) (fun x hx' _ => hx')).lt, (HKEY.out wx (bel_tr HB6.out hx)).2.1⟩)
  clear hA6 hB6 hq hB46 hP6 HE4 HE5 HE46 HE6 HA4 HA46 HA6 HP4 x0 x1 x2 x3 x4 x5 x6 x7 x8 x9 x10
  have HP6 := Lib.hid (HPQ.out w6 (Below.refl _ _)).1
  have x0 := HP6.out.cell 0 rfl
  have x1 := HP6.out.cell 1 rfl
  have x2 := HP6.out.cell 2 rfl
  have x3 := HP6.out.cell 3 rfl
  have x4 := HP6.out.cell 4 rfl
  have x5 := HP6.out.cell 5 rfl
  have x6 := HP6.out.cell 6 rfl
  have x7 := HP6.out.cell 7 rfl
  have x8 := HP6.out.cell 8 rfl
  have x9 := HP6.out.cell 9 rfl
  have x10 := HP6.out.cell 10 rfl
  go_upto_block 0 with (go_at_call 29; (with_reducible refine (HC29.out _ HB6.out).mono ?_); intro r7 w7 h7; obtain ⟨wa, wn, wc7, ws, rfl, hwn, hRW, hWS, hB7⟩ := h7; have HB7 := Lib.hid hB7; have HW7 := Lib.hid (And.intro hwn (And.intro hRW hWS)); clear hwn hRW hWS hB7)
  clear x0 x1 x2 x3 x4 x5 x6 x7 x8 x9 x10 HP6 HC29 HC32 HC35
  have HWN := Lib.hid (show wn = L.length from by rw [HW7.out.1, HWF.out, List.length_map])
  have hwm : wn ≤ 9223372036854775807 := by have h1 := HW7.out.2.1.le; have h2 := HW7.out.2.1.max; unfold maxLen at h2; omega
  have HWM := Lib.hid hwm
  clear hwm
  go_wp2_with fail
  go_loopw [36, 11, 12] (fun t36 t11 t12 wr => FsRel m fc L w7 t36 t11 t12 wr) (fun t36 _ _ _ => wn - (intOf t36).toNat)
  case atStart => exact ⟨0, rfl, Nat.zero_le _, rfl, rfl, Below.refl _ _⟩
  case round =>
    obtain ⟨j, rfl, hj, rfl, rfl, hBr⟩ := hrel
    have hB6r : Below w6.heap.size w6 wr := bel_tr HB7.out hBr
    have HBW := Lib.hid (bel_tr (bel_tr HB.out HB6.out) hB6r)
    by_cases hjn : j < wn
    · have hj1 : (j : Int) < (wn : Int) := by omega
      have hjL : j < L.length := by rw [← HWN.out]; exact hjn
      obtain ⟨pw, hpw⟩ : ∃ y, L[j]? = some y := ⟨L[j], List.getElem?_eq_getElem hjL⟩
      obtain ⟨⟨hat, hk0⟩, hrx⟩ := HWA.out pw (List.mem_of_getElem? hpw)
      have hfA := findSome_take (fun p : List Int × Et => hitA m p.2) L hpw
      have hfF := findSome_take (fun p : List Int × Et => hitFc fc p.2) L hpw
      have hnA := fun y => HFA.out (j + 1) y
      have hnF := fun y => HFF.out (j + 1) y
      have hoA := fun y => HFA.out j y
      have hoF := fun y => HFF.out j y
      have hnxt := fun (wx : World) (t11 t12 : Value) (h1 : t11 = .bool ((L.take (j + 1)).findSome? (fun p => hitA m p.2)).isSome) (h2 : t12 = .bool ((L.take (j + 1)).findSome? (fun p => hitFc fc p.2)).isSome) (h3 : Below w7.heap.size w7 wx) => (show FsRel m fc L w7 (.int .i64 ((j + 1 : Nat) : Int)) t11 t12 wx from ⟨j + 1, rfl, by omega, h1, h2, h3⟩)
      generalize (L.take (j + 1)).findSome? (fun p => hitA m p.2) = nA at *
      generalize (L.take (j + 1)).findSome? (fun p => hitFc fc p.2) = nF at *
      generalize (L.take j).findSome? (fun p => hitA m p.2) = oa at *
      generalize (L.take j).findSome? (fun p => hitFc fc p.2) = og at *
      subst hfA
      subst hfF
      obtain ⟨wa2, wn2, wc2, hv, hRd, _⟩ := WYs.get _ HW7.out.2.2 (show (ways1 k kids)[j]? = some pw.1 by rw [HWF.out, List.getElem?_map, hpw]; rfl)
      obtain ⟨ab, aoff, hwa, hab, hcell⟩ := HW7.out.2.1.at1 (k := j) hjn
      rw [hv] at hcell
      have hcellr := cellAt hBr hcell
      subst hwa
      have hten := right_ten (k := pw.2.k) (i := pw.2.i) (c := pw.2.c) (t := pw.2.t) (b := pw.2.b) (cs := pw.2.cs) (kids := pw.2.l) hrx
      have H37 := Lib.hid (at37 (HPQ.out wr hB6r).2.2.2.2.2 (fun _ h => h) (hRd.below hBr) hat)
      obtain ⟨way, xk, xi, xc, xt, xB, xcs, xL⟩ := pw
      dsimp only at H37 hnA hnF hnxt hten hk0
      have HNA := Lib.hid hnA
      have HNF := Lib.hid hnF
      have HOA := Lib.hid hoA
      have HOF := Lib.hid hoF
      have HNX := Lib.hid hnxt
      have HTN := Lib.hid (show 1 ≤ xk ∧ xk ≤ 10 by omega)
      have HJ := Lib.hid hjn
      have hnm := HWM.out
      have HBR := Lib.hid hBr
      have HP := Lib.hid (HPQ.out wr hB6r).1
      have x0 := HP.out.cell 0 rfl
      have x1 := HP.out.cell 1 rfl
      have x2 := HP.out.cell 2 rfl
      have x3 := HP.out.cell 3 rfl
      have x4 := HP.out.cell 4 rfl
      have x5 := HP.out.cell 5 rfl
      have x6 := HP.out.cell 6 rfl
      have x7 := HP.out.cell 7 rfl
      have x8 := HP.out.cell 8 rfl
      have x9 := HP.out.cell 9 rfl
      have x10 := HP.out.cell 10 rfl
      unfold vE at H37
      clear hpw hat hrx hv hRd hab hcell hnA hnF hoA hoF hnxt hten hjL hj hBr hB6r hk0 hjn
      go_upto_region 10 with (go_at_call 37; (with_reducible refine H37.out.mono ?_); intro r8 w8 h8; obtain ⟨m1, m2, m3, n1, n2, n3, o1, o2, o3, rfl, hE8, hB8⟩ := h8; unfold vE; have HE8 := Lib.hid hE8.lt; have HB8 := Lib.hid hB8; clear hE8 hB8)
      change Code.wp _ _ _ _ (ebox w8 xk xi xc xt xB m1 m2 m3 n1 n2 n3 o1 o2 o3)
      have hA9 := ebox_blk w8 xk xi xc xt xB m1 m2 m3 n1 n2 n3 o1 o2 o3
      have hB9 := ebox_below w8 xk xi xc xt xB m1 m2 m3 n1 n2 n3 o1 o2 o3
      generalize ebox w8 xk xi xc xt xB m1 m2 m3 n1 n2 n3 o1 o2 o3 = w9 at *
      obtain ⟨xb, hxb⟩ : ∃ x, x = w8.heap.size := ⟨_, rfl⟩
      rw [← hxb] at hA9
      rw [← hxb]
      have hB79 : Below w7.heap.size w7 w9 := bel_tr HBR.out (bel_tr HB8.out hB9)
      have HB79 := Lib.hid hB79
      have HAQ := Lib.hid (HPQ.out w9 (bel_tr HB7.out hB79))
      have HX9 := Lib.hid hA9
      have HE9 := Lib.hid (HE8.out.same (w' := w9) (fun x _ hlt => hB9.block x hlt) (fun x hx' _ => hx')).lt
      have hk0 : (xk == 0) = false := by have := HTN.out; simp; omega
      clear x0 x1 x2 x3 x4 x5 x6 x7 x8 x9 x10 hA9 hB9 hxb hB79 HP H37 HE8
      have x0 := HAQ.out.2.1.cell 0 rfl
      have x1 := HAQ.out.2.1.cell 1 rfl
      have x2 := HAQ.out.2.1.cell 2 rfl
      have x3 := HAQ.out.2.1.cell 3 rfl
      have x4 := HAQ.out.2.1.cell 4 rfl
      have x5 := HAQ.out.2.1.cell 5 rfl
      have x6 := HAQ.out.2.1.cell 6 rfl
      have x7 := HAQ.out.2.1.cell 7 rfl
      have x8 := HAQ.out.2.1.cell 8 rfl
      have x9 := HAQ.out.2.1.cell 9 rfl
      have x10 := HAQ.out.2.1.cell 10 rfl
      have y0 := HX9.out.cell 0 rfl
      have y1 := HX9.out.cell 1 rfl
      have y2 := HX9.out.cell 2 rfl
      have y3 := HX9.out.cell 3 rfl
      have y4 := HX9.out.cell 4 rfl
      have y5 := HX9.out.cell 5 rfl
      have y6 := HX9.out.cell 6 rfl
      have y7 := HX9.out.cell 7 rfl
      have y8 := HX9.out.cell 8 rfl
      have y9 := HX9.out.cell 9 rfl
      have y10 := HX9.out.cell 10 rfl
      have z0 := HAQ.out.2.2.1.cell 0 rfl
      have z1 := HAQ.out.2.2.1.cell 1 rfl
      have z2 := HAQ.out.2.2.1.cell 2 rfl
      have z3 := HAQ.out.2.2.1.cell 3 rfl
      have z4 := HAQ.out.2.2.1.cell 4 rfl
      have z5 := HAQ.out.2.2.1.cell 5 rfl
      have z6 := HAQ.out.2.2.1.cell 6 rfl
      have z7 := HAQ.out.2.2.1.cell 7 rfl
      have z8 := HAQ.out.2.2.1.cell 8 rfl
      have z9 := HAQ.out.2.2.1.cell 9 rfl
      have z10 := HAQ.out.2.2.1.cell 10 rfl
      go_upto_region 12 with fail
      go_cut [16] from 38 to 129 (fun s16 wx => wx = w9 ∧ s16 = .bool (tyK m xk))
      case first =>
        have ht := HTN.out
        by_cases q1 : xk = m
        · have b1 : (xk == m) = true := by simp [q1]
          have HT := Lib.hid (show tyK m xk = true by unfold tyK; rw [b1]; rfl)
          clear q1
          go_wp2_with fail
          go_meet
          exact ⟨rfl, by rw [HT.out]⟩
        · have b1 : (xk == m) = false := by simp [q1]
          by_cases q2 : xk = 7
          · have b2 : (xk == 7) = true := by simp [q2]
            have b4 : (xk == 2) = false := by simp [q2]
            by_cases q3 : m = 2
            · have b3 : (m == 2) = true := by simp [q3]
              have HT := Lib.hid (show tyK m xk = true by unfold tyK; rw [b2, b3]; simp)
              clear q1 q2 q3
              go_wp2_with fail
              go_meet
              exact ⟨rfl, by rw [HT.out]⟩
            · have b3 : (m == 2) = false := by simp [q3]
              have HT := Lib.hid (show tyK m xk = false by unfold tyK; rw [b1, b3, b4]; simp)
              clear q1 q2 q3
              go_wp2_with fail
              go_meet
              exact ⟨rfl, by rw [HT.out]⟩
          · have b2 : (xk == 7) = false := by simp [q2]
            by_cases q4 : xk = 2
            · have b4 : (xk == 2) = true := by simp [q4]
              by_cases q5 : m = 7
              · have b5 : (m == 7) = true := by simp [q5]
                have HT := Lib.hid (show tyK m xk = true by unfold tyK; rw [b4, b5]; simp)
                clear q1 q2 q4 q5
                go_wp2_with fail
                go_meet
                exact ⟨rfl, by rw [HT.out]⟩
              · have b5 : (m == 7) = false := by simp [q5]
                have HT := Lib.hid (show tyK m xk = false by unfold tyK; rw [b1, b2, b5]; simp)
                clear q1 q2 q4 q5
                go_wp2_with fail
                go_meet
                exact ⟨rfl, by rw [HT.out]⟩
            · have b4 : (xk == 2) = false := by simp [q4]
              have HT := Lib.hid (show tyK m xk = false by unfold tyK; rw [b1, b2, b4]; simp)
              clear q1 q2 q4
              go_wp2_with fail
              go_meet
              exact ⟨rfl, by rw [HT.out]⟩
      case rest =>
        obtain ⟨hwc, rfl⟩ := hcut
        subst wc
        have HTY1 := Lib.hid (show tyK m xk = true → hitA m ⟨xk, xi, xc, xt, xB, xcs, xL⟩ = some ⟨xk, xi, xc, xt, xB, xcs, xL⟩ from fun h => tyK_hit (x := ⟨xk, xi, xc, xt, xB, xcs, xL⟩) HTN.out.1 HTN.out.2 h)
        have HTY2 := Lib.hid (show (xk = 9 ∧ m = 1) → hitA m ⟨xk, xi, xc, xt, xB, xcs, xL⟩ = some ⟨1, 0, xc, xt, Dt.zero, [], .nil⟩ from fun h => tyK_nine (x := ⟨xk, xi, xc, xt, xB, xcs, xL⟩) h)
        have HTY3 := Lib.hid (show tyK m xk = false → ¬ (xk = 9 ∧ m = 1) → hitA m ⟨xk, xi, xc, xt, xB, xcs, xL⟩ = none from fun h h9 => tyK_none (x := ⟨xk, xi, xc, xt, xB, xcs, xL⟩) h h9)
        have HFC1 := Lib.hid (show hasK xk fc = true → hitFc fc ⟨xk, xi, xc, xt, xB, xcs, xL⟩ = some ⟨xk, xi, xc, xt, xB, xcs, xL⟩ from fun h => if_pos h)
        have HFC2 := Lib.hid (show hasK xk fc = false → hitFc fc ⟨xk, xi, xc, xt, xB, xcs, xL⟩ = none from fun h => if_neg (by rw [h]; exact Bool.false_ne_true))
        have HHAS := Lib.hid (fun wx => ehasN xk fc wx)
        generalize hitA m ⟨xk, xi, xc, xt, xB, xcs, xL⟩ = hi at *
        generalize hitFc fc ⟨xk, xi, xc, xt, xB, xcs, xL⟩ = hf at *
        generalize tyK m xk = ty at *
        generalize hasK xk fc = hs at *
        have HB99 := Lib.hid (Below.refl w9.heap.size w9)

        rcases oa with _ | ya
        rotate_left
        · skip
          rcases og with _ | yf
          rotate_left
          · skip
            go_wp2_with fail
            go_roundw
            case rel => exact HNX.out _ _ _ (by first | rfl | (rw [HOR.out] <;> rfl)) (by first | rfl | (rw [HOF2.out] <;> rfl)) (bel_tr HB79.out HB99.out)
            case measure => simp [intOf]; have := HJ.out; omega
          · cases hs
            · skip
              have HOF2 := Lib.hid (show (Option.or none hf).isSome = false by rw [HFC2.out rfl]; rfl)
              go_wp2_with (first
                | (go_at_call 19; (with_reducible refine (HHAS.out _).mono ?_); rintro r5 w11 ⟨rfl, hB⟩; have HB911 := Lib.hid (bel_tr HB99.out hB); replace x0 := cellAt hB x0; replace x1 := cellAt hB x1; replace x2 := cellAt hB x2; replace x3 := cellAt hB x3; replace x4 := cellAt hB x4; replace x5 := cellAt hB x5; replace x6 := cellAt hB x6; replace x7 := cellAt hB x7; replace x8 := cellAt hB x8; replace x9 := cellAt hB x9; replace x10 := cellAt hB x10; replace y0 := cellAt hB y0; replace y1 := cellAt hB y1; replace y2 := cellAt hB y2; replace y3 := cellAt hB y3; replace y4 := cellAt hB y4; replace y5 := cellAt hB y5; replace y6 := cellAt hB y6; replace y7 := cellAt hB y7; replace y8 := cellAt hB y8; replace y9 := cellAt hB y9; replace y10 := cellAt hB y10; replace z0 := cellAt hB z0; replace z1 := cellAt hB z1; replace z2 := cellAt hB z2; replace z3 := cellAt hB z3; replace z4 := cellAt hB z4; replace z5 := cellAt hB z5; replace z6 := cellAt hB z6; replace z7 := cellAt hB z7; replace z8 := cellAt hB z8; replace z9 := cellAt hB z9; replace z10 := cellAt hB z10; clear hB))
              go_roundw
              case rel => exact HNX.out _ _ _ (by first | rfl | (rw [HOR.out] <;> rfl)) (by first | rfl | (rw [HOF2.out] <;> rfl)) (bel_tr HB79.out HB911.out)
              case measure => simp [intOf]; have := HJ.out; omega
            · skip
              have hF2 := HNF.out _ (show Option.or none hf = some ⟨xk, xi, xc, xt, xB, xcs, xL⟩ by rw [HFC1.out rfl]; rfl)
              have HOF2 := Lib.hid (show (Option.or none hf).isSome = true by rw [HFC1.out rfl]; rfl)
              obtain ⟨rfl, hF3⟩ := hF2
              simp only [Et.mk.injEq] at hF3
              obtain ⟨rfl, rfl, rfl, rfl, rfl, rfl, rfl⟩ := hF3
              have HSF := Lib.hid (fun (wx : World) (hx : Below w9.heap.size w9 wx) => HS15.out ⟨fk, fi, fC, fT, fB, fcs, fL⟩ wx e1 e2 e3 f1 f2 f3 g1 g2 g3 m1 m2 m3 n1 n2 n3 o1 o2 o3 (HPQ.out wx (bel_tr HB7.out (bel_tr HB79.out hx))).2.2.2.2.1 (HE9.out.same (w' := wx) (fun x _ hlt => hx.block x hlt) (fun x hx' _ => hx')).lt)
              dsimp only at HSF
              unfold vE at HSF
              go_wp2_with (first
                | (go_at_call 19; (with_reducible refine (HHAS.out _).mono ?_); rintro r5 w11 ⟨rfl, hB⟩; have HB911 := Lib.hid (bel_tr HB99.out hB); replace x0 := cellAt hB x0; replace x1 := cellAt hB x1; replace x2 := cellAt hB x2; replace x3 := cellAt hB x3; replace x4 := cellAt hB x4; replace x5 := cellAt hB x5; replace x6 := cellAt hB x6; replace x7 := cellAt hB x7; replace x8 := cellAt hB x8; replace x9 := cellAt hB x9; replace x10 := cellAt hB x10; replace y0 := cellAt hB y0; replace y1 := cellAt hB y1; replace y2 := cellAt hB y2; replace y3 := cellAt hB y3; replace y4 := cellAt hB y4; replace y5 := cellAt hB y5; replace y6 := cellAt hB y6; replace y7 := cellAt hB y7; replace y8 := cellAt hB y8; replace y9 := cellAt hB y9; replace y10 := cellAt hB y10; replace z0 := cellAt hB z0; replace z1 := cellAt hB z1; replace z2 := cellAt hB z2; replace z3 := cellAt hB z3; replace z4 := cellAt hB z4; replace z5 := cellAt hB z5; replace z6 := cellAt hB z6; replace z7 := cellAt hB z7; replace z8 := cellAt hB z8; replace z9 := cellAt hB z9; replace z10 := cellAt hB z10; clear hB)
                | (go_at_call 15; (with_reducible refine (HSF.out _ HB911.out).mono ?_); rintro r5 w12 ⟨rfl, hB⟩; have HB912 := Lib.hid (bel_tr HB911.out hB); replace x0 := cellAt hB x0; replace x1 := cellAt hB x1; replace x2 := cellAt hB x2; replace x3 := cellAt hB x3; replace x4 := cellAt hB x4; replace x5 := cellAt hB x5; replace x6 := cellAt hB x6; replace x7 := cellAt hB x7; replace x8 := cellAt hB x8; replace x9 := cellAt hB x9; replace x10 := cellAt hB x10; replace y0 := cellAt hB y0; replace y1 := cellAt hB y1; replace y2 := cellAt hB y2; replace y3 := cellAt hB y3; replace y4 := cellAt hB y4; replace y5 := cellAt hB y5; replace y6 := cellAt hB y6; replace y7 := cellAt hB y7; replace y8 := cellAt hB y8; replace y9 := cellAt hB y9; replace y10 := cellAt hB y10; replace z0 := cellAt hB z0; replace z1 := cellAt hB z1; replace z2 := cellAt hB z2; replace z3 := cellAt hB z3; replace z4 := cellAt hB z4; replace z5 := cellAt hB z5; replace z6 := cellAt hB z6; replace z7 := cellAt hB z7; replace z8 := cellAt hB z8; replace z9 := cellAt hB z9; replace z10 := cellAt hB z10; clear hB))
              go_roundw
              case rel => exact HNX.out _ _ _ (by first | rfl | (rw [HOR.out] <;> rfl)) (by first | rfl | (rw [HOF2.out] <;> rfl)) (bel_tr HB79.out HB912.out)
              case measure => simp [intOf]; have := HJ.out; omega
        · cases ty
          rotate_left
          · skip
            have hA2 := HNA.out _ (show Option.or none hi = some ⟨xk, xi, xc, xt, xB, xcs, xL⟩ by rw [HTY1.out rfl]; rfl)
            have HOR := Lib.hid (show (Option.or none hi).isSome = true by rw [HTY1.out rfl]; rfl)
            obtain ⟨rfl, hA3⟩ := hA2
            simp only [Et.mk.injEq] at hA3
            obtain ⟨rfl, rfl, rfl, rfl, rfl, rfl, rfl⟩ := hA3
            have HSA := Lib.hid (fun (wx : World) (hx : Below w9.heap.size w9 wx) => HS15.out ⟨ak, ai, ac, aT, aB, acs, aL⟩ wx a1 a2 a3 b1 b2 b3 d1 d2 d3 m1 m2 m3 n1 n2 n3 o1 o2 o3 (HPQ.out wx (bel_tr HB7.out (bel_tr HB79.out hx))).2.2.2.1 (HE9.out.same (w' := wx) (fun x _ hlt => hx.block x hlt) (fun x hx' _ => hx')).lt)
            dsimp only at HSA
            unfold vE at HSA
            rcases og with _ | yf
            rotate_left
            · skip
              go_wp2_with (first
                | (go_at_call 15; (with_reducible refine (HSA.out _ HB99.out).mono ?_); rintro r5 w10 ⟨rfl, hB⟩; have HB910 := Lib.hid (bel_tr HB99.out hB); replace x0 := cellAt hB x0; replace x1 := cellAt hB x1; replace x2 := cellAt hB x2; replace x3 := cellAt hB x3; replace x4 := cellAt hB x4; replace x5 := cellAt hB x5; replace x6 := cellAt hB x6; replace x7 := cellAt hB x7; replace x8 := cellAt hB x8; replace x9 := cellAt hB x9; replace x10 := cellAt hB x10; replace y0 := cellAt hB y0; replace y1 := cellAt hB y1; replace y2 := cellAt hB y2; replace y3 := cellAt hB y3; replace y4 := cellAt hB y4; replace y5 := cellAt hB y5; replace y6 := cellAt hB y6; replace y7 := cellAt hB y7; replace y8 := cellAt hB y8; replace y9 := cellAt hB y9; replace y10 := cellAt hB y10; replace z0 := cellAt hB z0; replace z1 := cellAt hB z1; replace z2 := cellAt hB z2; replace z3 := cellAt hB z3; replace z4 := cellAt hB z4; replace z5 := cellAt hB z5; replace z6 := cellAt hB z6; replace z7 := cellAt hB z7; replace z8 := cellAt hB z8; replace z9 := cellAt hB z9; replace z10 := cellAt hB z10; clear hB))
              go_roundw
              case rel => exact HNX.out _ _ _ (by first | rfl | (rw [HOR.out] <;> rfl)) (by first | rfl | (rw [HOF2.out] <;> rfl)) (bel_tr HB79.out HB910.out)
              case measure => simp [intOf]; have := HJ.out; omega
            · cases hs
              · skip
                have HOF2 := Lib.hid (show (Option.or none hf).isSome = false by rw [HFC2.out rfl]; rfl)
                go_wp2_with (first
                  | (go_at_call 15; (with_reducible refine (HSA.out _ HB99.out).mono ?_); rintro r5 w10 ⟨rfl, hB⟩; have HB910 := Lib.hid (bel_tr HB99.out hB); replace x0 := cellAt hB x0; replace x1 := cellAt hB x1; replace x2 := cellAt hB x2; replace x3 := cellAt hB x3; replace x4 := cellAt hB x4; replace x5 := cellAt hB x5; replace x6 := cellAt hB x6; replace x7 := cellAt hB x7; replace x8 := cellAt hB x8; replace x9 := cellAt hB x9; replace x10 := cellAt hB x10; replace y0 := cellAt hB y0; replace y1 := cellAt hB y1; replace y2 := cellAt hB y2; replace y3 := cellAt hB y3; replace y4 := cellAt hB y4; replace y5 := cellAt hB y5; replace y6 := cellAt hB y6; replace y7 := cellAt hB y7; replace y8 := cellAt hB y8; replace y9 := cellAt hB y9; replace y10 := cellAt hB y10; replace z0 := cellAt hB z0; replace z1 := cellAt hB z1; replace z2 := cellAt hB z2; replace z3 := cellAt hB z3; replace z4 := cellAt hB z4; replace z5 := cellAt hB z5; replace z6 := cellAt hB z6; replace z7 := cellAt hB z7; replace z8 := cellAt hB z8; replace z9 := cellAt hB z9; replace z10 := cellAt hB z10; clear hB)
                  | (go_at_call 19; (with_reducible refine (HHAS.out _).mono ?_); rintro r5 w11 ⟨rfl, hB⟩; have HB911 := Lib.hid (bel_tr HB910.out hB); replace x0 := cellAt hB x0; replace x1 := cellAt hB x1; replace x2 := cellAt hB x2; replace x3 := cellAt hB x3; replace x4 := cellAt hB x4; replace x5 := cellAt hB x5; replace x6 := cellAt hB x6; replace x7 := cellAt hB x7; replace x8 := cellAt hB x8; replace x9 := cellAt hB x9; replace x10 := cellAt hB x10; replace y0 := cellAt hB y0; replace y1 := cellAt hB y1; replace y2 := cellAt hB y2; replace y3 := cellAt hB y3; replace y4 := cellAt hB y4; replace y5 := cellAt hB y5; replace y6 := cellAt hB y6; replace y7 := cellAt hB y7; replace y8 := cellAt hB y8; replace y9 := cellAt hB y9; replace y10 := cellAt hB y10; replace z0 := cellAt hB z0; replace z1 := cellAt hB z1; replace z2 := cellAt hB z2; replace z3 := cellAt hB z3; replace z4 := cellAt hB z4; replace z5 := cellAt hB z5; replace z6 := cellAt hB z6; replace z7 := cellAt hB z7; replace z8 := cellAt hB z8; replace z9 := cellAt hB z9; replace z10 := cellAt hB z10; clear hB))
                go_roundw
                case rel => exact HNX.out _ _ _ (by first | rfl | (rw [HOR.out] <;> rfl)) (by first | rfl | (rw [HOF2.out] <;> rfl)) (bel_tr HB79.out HB911.out)
                case measure => simp [intOf]; have := HJ.out; omega
              · skip
                have hF2 := HNF.out _ (show Option.or none hf = some ⟨ak, ai, ac, aT, aB, acs, aL⟩ by rw [HFC1.out rfl]; rfl)
                have HOF2 := Lib.hid (show (Option.or none hf).isSome = true by rw [HFC1.out rfl]; rfl)
                obtain ⟨rfl, hF3⟩ := hF2
                simp only [Et.mk.injEq] at hF3
                obtain ⟨rfl, rfl, rfl, rfl, rfl, rfl, rfl⟩ := hF3
                have HSF := Lib.hid (fun (wx : World) (hx : Below w9.heap.size w9 wx) => HS15.out ⟨fk, fi, fC, fT, fB, fcs, fL⟩ wx e1 e2 e3 f1 f2 f3 g1 g2 g3 m1 m2 m3 n1 n2 n3 o1 o2 o3 (HPQ.out wx (bel_tr HB7.out (bel_tr HB79.out hx))).2.2.2.2.1 (HE9.out.same (w' := wx) (fun x _ hlt => hx.block x hlt) (fun x hx' _ => hx')).lt)
                dsimp only at HSF
                unfold vE at HSF
                go_wp2_with (first
                  | (go_at_call 15; (with_reducible refine (HSA.out _ HB99.out).mono ?_); rintro r5 w10 ⟨rfl, hB⟩; have HB910 := Lib.hid (bel_tr HB99.out hB); replace x0 := cellAt hB x0; replace x1 := cellAt hB x1; replace x2 := cellAt hB x2; replace x3 := cellAt hB x3; replace x4 := cellAt hB x4; replace x5 := cellAt hB x5; replace x6 := cellAt hB x6; replace x7 := cellAt hB x7; replace x8 := cellAt hB x8; replace x9 := cellAt hB x9; replace x10 := cellAt hB x10; replace y0 := cellAt hB y0; replace y1 := cellAt hB y1; replace y2 := cellAt hB y2; replace y3 := cellAt hB y3; replace y4 := cellAt hB y4; replace y5 := cellAt hB y5; replace y6 := cellAt hB y6; replace y7 := cellAt hB y7; replace y8 := cellAt hB y8; replace y9 := cellAt hB y9; replace y10 := cellAt hB y10; replace z0 := cellAt hB z0; replace z1 := cellAt hB z1; replace z2 := cellAt hB z2; replace z3 := cellAt hB z3; replace z4 := cellAt hB z4; replace z5 := cellAt hB z5; replace z6 := cellAt hB z6; replace z7 := cellAt hB z7; replace z8 := cellAt hB z8; replace z9 := cellAt hB z9; replace z10 := cellAt hB z10; clear hB)
                  | (go_at_call 19; (with_reducible refine (HHAS.out _).mono ?_); rintro r5 w11 ⟨rfl, hB⟩; have HB911 := Lib.hid (bel_tr HB910.out hB); replace x0 := cellAt hB x0; replace x1 := cellAt hB x1; replace x2 := cellAt hB x2; replace x3 := cellAt hB x3; replace x4 := cellAt hB x4; replace x5 := cellAt hB x5; replace x6 := cellAt hB x6; replace x7 := cellAt hB x7; replace x8 := cellAt hB x8; replace x9 := cellAt hB x9; replace x10 := cellAt hB x10; replace y0 := cellAt hB y0; replace y1 := cellAt hB y1; replace y2 := cellAt hB y2; replace y3 := cellAt hB y3; replace y4 := cellAt hB y4; replace y5 := cellAt hB y5; replace y6 := cellAt hB y6; replace y7 := cellAt hB y7; replace y8 := cellAt hB y8; replace y9 := cellAt hB y9; replace y10 := cellAt hB y10; replace z0 := cellAt hB z0; replace z1 := cellAt hB z1; replace z2 := cellAt hB z2; replace z3 := cellAt hB z3; replace z4 := cellAt hB z4; replace z5 := cellAt hB z5; replace z6 := cellAt hB z6; replace z7 := cellAt hB z7; replace z8 := cellAt hB z8; replace z9 := cellAt hB z9; replace z10 := cellAt hB z10; clear hB)
                  | (go_at_call 15; (with_reducible refine (HSF.out _ HB911.out).mono ?_); rintro r5 w12 ⟨rfl, hB⟩; have HB912 := Lib.hid (bel_tr HB911.out hB); replace x0 := cellAt hB x0; replace x1 := cellAt hB x1; replace x2 := cellAt hB x2; replace x3 := cellAt hB x3; replace x4 := cellAt hB x4; replace x5 := cellAt hB x5; replace x6 := cellAt hB x6; replace x7 := cellAt hB x7; replace x8 := cellAt hB x8; replace x9 := cellAt hB x9; replace x10 := cellAt hB x10; replace y0 := cellAt hB y0; replace y1 := cellAt hB y1; replace y2 := cellAt hB y2; replace y3 := cellAt hB y3; replace y4 := cellAt hB y4; replace y5 := cellAt hB y5; replace y6 := cellAt hB y6; replace y7 := cellAt hB y7; replace y8 := cellAt hB y8; replace y9 := cellAt hB y9; replace y10 := cellAt hB y10; replace z0 := cellAt hB z0; replace z1 := cellAt hB z1; replace z2 := cellAt hB z2; replace z3 := cellAt hB z3; replace z4 := cellAt hB z4; replace z5 := cellAt hB z5; replace z6 := cellAt hB z6; replace z7 := cellAt hB z7; replace z8 := cellAt hB z8; replace z9 := cellAt hB z9; replace z10 := cellAt hB z10; clear hB))
                go_roundw
                case rel => exact HNX.out _ _ _ (by first | rfl | (rw [HOR.out] <;> rfl)) (by first | rfl | (rw [HOF2.out] <;> rfl)) (bel_tr HB79.out HB912.out)
                case measure => simp [intOf]; have := HJ.out; omega
          · by_cases h9 : xk = 9 ∧ m = 1
            · skip
              obtain ⟨rfl, rfl⟩ := h9
              have hA2 := HNA.out _ (show Option.or none hi = some ⟨1, 0, xc, xt, Dt.zero, [], .nil⟩ by rw [HTY2.out ⟨rfl, rfl⟩]; rfl)
              have HOR := Lib.hid (show (Option.or none hi).isSome = true by rw [HTY2.out ⟨rfl, rfl⟩]; rfl)
              obtain ⟨rfl, hA3⟩ := hA2
              simp only [Et.mk.injEq] at hA3
              obtain ⟨rfl, rfl, rfl, rfl, rfl, rfl, rfl⟩ := hA3
              rcases og with _ | yf
              rotate_left
              · skip
                go_wp2_with fail
                go_roundw
                case rel => exact HNX.out _ _ _ (by first | rfl | (rw [HOR.out] <;> rfl)) (by first | rfl | (rw [HOF2.out] <;> rfl)) (bel_tr HB79.out HB99.out)
                case measure => simp [intOf]; have := HJ.out; omega
              · cases hs
                · skip
                  have HOF2 := Lib.hid (show (Option.or none hf).isSome = false by rw [HFC2.out rfl]; rfl)
                  go_wp2_with (first
                    | (go_at_call 19; (with_reducible refine (HHAS.out _).mono ?_); rintro r5 w11 ⟨rfl, hB⟩; have HB911 := Lib.hid (bel_tr HB99.out hB); replace x0 := cellAt hB x0; replace x1 := cellAt hB x1; replace x2 := cellAt hB x2; replace x3 := cellAt hB x3; replace x4 := cellAt hB x4; replace x5 := cellAt hB x5; replace x6 := cellAt hB x6; replace x7 := cellAt hB x7; replace x8 := cellAt hB x8; replace x9 := cellAt hB x9; replace x10 := cellAt hB x10; replace y0 := cellAt hB y0; replace y1 := cellAt hB y1; replace y2 := cellAt hB y2; replace y3 := cellAt hB y3; replace y4 := cellAt hB y4; replace y5 := cellAt hB y5; replace y6 := cellAt hB y6; replace y7 := cellAt hB y7; replace y8 := cellAt hB y8; replace y9 := cellAt hB y9; replace y10 := cellAt hB y10; replace z0 := cellAt hB z0; replace z1 := cellAt hB z1; replace z2 := cellAt hB z2; replace z3 := cellAt hB z3; replace z4 := cellAt hB z4; replace z5 := cellAt hB z5; replace z6 := cellAt hB z6; replace z7 := cellAt hB z7; replace z8 := cellAt hB z8; replace z9 := cellAt hB z9; replace z10 := cellAt hB z10; clear hB))
                  go_roundw
                  case rel => exact HNX.out _ _ _ (by first | rfl | (rw [HOR.out] <;> rfl)) (by first | rfl | (rw [HOF2.out] <;> rfl)) (bel_tr HB79.out HB911.out)
                  case measure => simp [intOf]; have := HJ.out; omega
                · skip
                  have hF2 := HNF.out _ (show Option.or none hf = some ⟨9, xi, ac, aT, xB, xcs, xL⟩ by rw [HFC1.out rfl]; rfl)
                  have HOF2 := Lib.hid (show (Option.or none hf).isSome = true by rw [HFC1.out rfl]; rfl)
                  obtain ⟨rfl, hF3⟩ := hF2
                  simp only [Et.mk.injEq] at hF3
                  obtain ⟨rfl, rfl, rfl, rfl, rfl, rfl, rfl⟩ := hF3
                  have HSF := Lib.hid (fun (wx : World) (hx : Below w9.heap.size w9 wx) => HS15.out ⟨9, fi, fC, fT, fB, fcs, fL⟩ wx e1 e2 e3 f1 f2 f3 g1 g2 g3 m1 m2 m3 n1 n2 n3 o1 o2 o3 (HPQ.out wx (bel_tr HB7.out (bel_tr HB79.out hx))).2.2.2.2.1 (HE9.out.same (w' := wx) (fun x _ hlt => hx.block x hlt) (fun x hx' _ => hx')).lt)
                  dsimp only at HSF
                  unfold vE at HSF
                  go_wp2_with (first
                    | (go_at_call 19; (with_reducible refine (HHAS.out _).mono ?_); rintro r5 w11 ⟨rfl, hB⟩; have HB911 := Lib.hid (bel_tr HB99.out hB); replace x0 := cellAt hB x0; replace x1 := cellAt hB x1; replace x2 := cellAt hB x2; replace x3 := cellAt hB x3; replace x4 := cellAt hB x4; replace x5 := cellAt hB x5; replace x6 := cellAt hB x6; replace x7 := cellAt hB x7; replace x8 := cellAt hB x8; replace x9 := cellAt hB x9; replace x10 := cellAt hB x10; replace y0 := cellAt hB y0; replace y1 := cellAt hB y1; replace y2 := cellAt hB y2; replace y3 := cellAt hB y3; replace y4 := cellAt hB y4; replace y5 := cellAt hB y5; replace y6 := cellAt hB y6; replace y7 := cellAt hB y7; replace y8 := cellAt hB y8; replace y9 := cellAt hB y9; replace y10 := cellAt hB y10; replace z0 := cellAt hB z0; replace z1 := cellAt hB z1; replace z2 := cellAt hB z2; replace z3 := cellAt hB z3; replace z4 := cellAt hB z4; replace z5 := cellAt hB z5; replace z6 := cellAt hB z6; replace z7 := cellAt hB z7; replace z8 := cellAt hB z8; replace z9 := cellAt hB z9; replace z10 := cellAt hB z10; clear hB)
                    | (go_at_call 15; (with_reducible refine (HSF.out _ HB911.out).mono ?_); rintro r5 w12 ⟨rfl, hB⟩; have HB912 := Lib.hid (bel_tr HB911.out hB); replace x0 := cellAt hB x0; replace x1 := cellAt hB x1; replace x2 := cellAt hB x2; replace x3 := cellAt hB x3; replace x4 := cellAt hB x4; replace x5 := cellAt hB x5; replace x6 := cellAt hB x6; replace x7 := cellAt hB x7; replace x8 := cellAt hB x8; replace x9 := cellAt hB x9; replace x10 := cellAt hB x10; replace y0 := cellAt hB y0; replace y1 := cellAt hB y1; replace y2 := cellAt hB y2; replace y3 := cellAt hB y3; replace y4 := cellAt hB y4; replace y5 := cellAt hB y5; replace y6 := cellAt hB y6; replace y7 := cellAt hB y7; replace y8 := cellAt hB y8; replace y9 := cellAt hB y9; replace y10 := cellAt hB y10; replace z0 := cellAt hB z0; replace z1 := cellAt hB z1; replace z2 := cellAt hB z2; replace z3 := cellAt hB z3; replace z4 := cellAt hB z4; replace z5 := cellAt hB z5; replace z6 := cellAt hB z6; replace z7 := cellAt hB z7; replace z8 := cellAt hB z8; replace z9 := cellAt hB z9; replace z10 := cellAt hB z10; clear hB))
                  go_roundw
                  case rel => exact HNX.out _ _ _ (by first | rfl | (rw [HOR.out] <;> rfl)) (by first | rfl | (rw [HOF2.out] <;> rfl)) (bel_tr HB79.out HB912.out)
                  case measure => simp [intOf]; have := HJ.out; omega
            · have hk9 : (xk == 9) = false ∨ ((xk == 9) = true ∧ (m == 1) = false) := by
                by_cases h : xk = 9
                · exact .inr ⟨by simp [h], by simp; exact fun e => h9 ⟨h, e⟩⟩
                · exact .inl (by simp [h])
              have HOR := Lib.hid (show (Option.or none hi).isSome = false by rw [HTY3.out rfl h9]; rfl)
              clear h9
              rcases hk9 with hk9 | ⟨hk9, hm1⟩
              · skip
                rcases og with _ | yf
                rotate_left
                · skip
                  go_wp2_with fail
                  go_roundw
                  case rel => exact HNX.out _ _ _ (by first | rfl | (rw [HOR.out] <;> rfl)) (by first | rfl | (rw [HOF2.out] <;> rfl)) (bel_tr HB79.out HB99.out)
                  case measure => simp [intOf]; have := HJ.out; omega
                · cases hs
                  · skip
                    have HOF2 := Lib.hid (show (Option.or none hf).isSome = false by rw [HFC2.out rfl]; rfl)
                    go_wp2_with (first
                      | (go_at_call 19; (with_reducible refine (HHAS.out _).mono ?_); rintro r5 w11 ⟨rfl, hB⟩; have HB911 := Lib.hid (bel_tr HB99.out hB); replace x0 := cellAt hB x0; replace x1 := cellAt hB x1; replace x2 := cellAt hB x2; replace x3 := cellAt hB x3; replace x4 := cellAt hB x4; replace x5 := cellAt hB x5; replace x6 := cellAt hB x6; replace x7 := cellAt hB x7; replace x8 := cellAt hB x8; replace x9 := cellAt hB x9; replace x10 := cellAt hB x10; replace y0 := cellAt hB y0; replace y1 := cellAt hB y1; replace y2 := cellAt hB y2; replace y3 := cellAt hB y3; replace y4 := cellAt hB y4; replace y5 := cellAt hB y5; replace y6 := cellAt hB y6; replace y7 := cellAt hB y7; replace y8 := cellAt hB y8; replace y9 := cellAt hB y9; replace y10 := cellAt hB y10; replace z0 := cellAt hB z0; replace z1 := cellAt hB z1; replace z2 := cellAt hB z2; replace z3 := cellAt hB z3; replace z4 := cellAt hB z4; replace z5 := cellAt hB z5; replace z6 := cellAt hB z6; replace z7 := cellAt hB z7; replace z8 := cellAt hB z8; replace z9 := cellAt hB z9; replace z10 := cellAt hB z10; clear hB))
                    go_roundw
                    case rel => exact HNX.out _ _ _ (by first | rfl | (rw [HOR.out] <;> rfl)) (by first | rfl | (rw [HOF2.out] <;> rfl)) (bel_tr HB79.out HB911.out)
                    case measure => simp [intOf]; have := HJ.out; omega
                  · skip
                    have hF2 := HNF.out _ (show Option.or none hf = some ⟨xk, xi, xc, xt, xB, xcs, xL⟩ by rw [HFC1.out rfl]; rfl)
                    have HOF2 := Lib.hid (show (Option.or none hf).isSome = true by rw [HFC1.out rfl]; rfl)
                    obtain ⟨rfl, hF3⟩ := hF2
                    simp only [Et.mk.injEq] at hF3
                    obtain ⟨rfl, rfl, rfl, rfl, rfl, rfl, rfl⟩ := hF3
                    have HSF := Lib.hid (fun (wx : World) (hx : Below w9.heap.size w9 wx) => HS15.out ⟨fk, fi, fC, fT, fB, fcs, fL⟩ wx e1 e2 e3 f1 f2 f3 g1 g2 g3 m1 m2 m3 n1 n2 n3 o1 o2 o3 (HPQ.out wx (bel_tr HB7.out (bel_tr HB79.out hx))).2.2.2.2.1 (HE9.out.same (w' := wx) (fun x _ hlt => hx.block x hlt) (fun x hx' _ => hx')).lt)
                    dsimp only at HSF
                    unfold vE at HSF
                    go_wp2_with (first
                      | (go_at_call 19; (with_reducible refine (HHAS.out _).mono ?_); rintro r5 w11 ⟨rfl, hB⟩; have HB911 := Lib.hid (bel_tr HB99.out hB); replace x0 := cellAt hB x0; replace x1 := cellAt hB x1; replace x2 := cellAt hB x2; replace x3 := cellAt hB x3; replace x4 := cellAt hB x4; replace x5 := cellAt hB x5; replace x6 := cellAt hB x6; replace x7 := cellAt hB x7; replace x8 := cellAt hB x8; replace x9 := cellAt hB x9; replace x10 := cellAt hB x10; replace y0 := cellAt hB y0; replace y1 := cellAt hB y1; replace y2 := cellAt hB y2; replace y3 := cellAt hB y3; replace y4 := cellAt hB y4; replace y5 := cellAt hB y5; replace y6 := cellAt hB y6; replace y7 := cellAt hB y7; replace y8 := cellAt hB y8; replace y9 := cellAt hB y9; replace y10 := cellAt hB y10; replace z0 := cellAt hB z0; replace z1 := cellAt hB z1; replace z2 := cellAt hB z2; replace z3 := cellAt hB z3; replace z4 := cellAt hB z4; replace z5 := cellAt hB z5; replace z6 := cellAt hB z6; replace z7 := cellAt hB z7; replace z8 := cellAt hB z8; replace z9 := cellAt hB z9; replace z10 := cellAt hB z10; clear hB)
                      | (go_at_call 15; (with_reducible refine (HSF.out _ HB911.out).mono ?_); rintro r5 w12 ⟨rfl, hB⟩; have HB912 := Lib.hid (bel_tr HB911.out hB); replace x0 := cellAt hB x0; replace x1 := cellAt hB x1; replace x2 := cellAt hB x2; replace x3 := cellAt hB x3; replace x4 := cellAt hB x4; replace x5 := cellAt hB x5; replace x6 := cellAt hB x6; replace x7 := cellAt hB x7; replace x8 := cellAt hB x8; replace x9 := cellAt hB x9; replace x10 := cellAt hB x10; replace y0 := cellAt hB y0; replace y1 := cellAt hB y1; replace y2 := cellAt hB y2; replace y3 := cellAt hB y3; replace y4 := cellAt hB y4; replace y5 := cellAt hB y5; replace y6 := cellAt hB y6; replace y7 := cellAt hB y7; replace y8 := cellAt hB y8; replace y9 := cellAt hB y9; replace y10 := cellAt hB y10; replace z0 := cellAt hB z0; replace z1 := cellAt hB z1; replace z2 := cellAt hB z2; replace z3 := cellAt hB z3; replace z4 := cellAt hB z4; replace z5 := cellAt hB z5; replace z6 := cellAt hB z6; replace z7 := cellAt hB z7; replace z8 := cellAt hB z8; replace z9 := cellAt hB z9; replace z10 := cellAt hB z10; clear hB))
                    go_roundw
                    case rel => exact HNX.out _ _ _ (by first | rfl | (rw [HOR.out] <;> rfl)) (by first | rfl | (rw [HOF2.out] <;> rfl)) (bel_tr HB79.out HB912.out)
                    case measure => simp [intOf]; have := HJ.out; omega
              · skip
                rcases og with _ | yf
                rotate_left
                · skip
                  go_wp2_with fail
                  go_roundw
                  case rel => exact HNX.out _ _ _ (by first | rfl | (rw [HOR.out] <;> rfl)) (by first | rfl | (rw [HOF2.out] <;> rfl)) (bel_tr HB79.out HB99.out)
                  case measure => simp [intOf]; have := HJ.out; omega
                · cases hs
                  · skip
                    have HOF2 := Lib.hid (show (Option.or none hf).isSome = false by rw [HFC2.out rfl]; rfl)
                    go_wp2_with (first
                      | (go_at_call 19; (with_reducible refine (HHAS.out _).mono ?_); rintro r5 w11 ⟨rfl, hB⟩; have HB911 := Lib.hid (bel_tr HB99.out hB); replace x0 := cellAt hB x0; replace x1 := cellAt hB x1; replace x2 := cellAt hB x2; replace x3 := cellAt hB x3; replace x4 := cellAt hB x4; replace x5 := cellAt hB x5; replace x6 := cellAt hB x6; replace x7 := cellAt hB x7; replace x8 := cellAt hB x8; replace x9 := cellAt hB x9; replace x10 := cellAt hB x10; replace y0 := cellAt hB y0; replace y1 := cellAt hB y1; replace y2 := cellAt hB y2; replace y3 := cellAt hB y3; replace y4 := cellAt hB y4; replace y5 := cellAt hB y5; replace y6 := cellAt hB y6; replace y7 := cellAt hB y7; replace y8 := cellAt hB y8; replace y9 := cellAt hB y9; replace y10 := cellAt hB y10; replace z0 := cellAt hB z0; replace z1 := cellAt hB z1; replace z2 := cellAt hB z2; replace z3 := cellAt hB z3; replace z4 := cellAt hB z4; replace z5 := cellAt hB z5; replace z6 := cellAt hB z6; replace z7 := cellAt hB z7; replace z8 := cellAt hB z8; replace z9 := cellAt hB z9; replace z10 := cellAt hB z10; clear hB))
                    go_roundw
                    case rel => exact HNX.out _ _ _ (by first | rfl | (rw [HOR.out] <;> rfl)) (by first | rfl | (rw [HOF2.out] <;> rfl)) (bel_tr HB79.out HB911.out)
                    case measure => simp [intOf]; have := HJ.out; omega
                  · skip
                    have hF2 := HNF.out _ (show Option.or none hf = some ⟨xk, xi, xc, xt, xB, xcs, xL⟩ by rw [HFC1.out rfl]; rfl)
                    have HOF2 := Lib.hid (show (Option.or none hf).isSome = true by rw [HFC1.out rfl]; rfl)
                    obtain ⟨rfl, hF3⟩ := hF2
                    simp only [Et.mk.injEq] at hF3
                    obtain ⟨rfl, rfl, rfl, rfl, rfl, rfl, rfl⟩ := hF3
                    have HSF := Lib.hid (fun (wx : World) (hx : Below w9.heap.size w9 wx) => HS15.out ⟨fk, fi, fC, fT, fB, fcs, fL⟩ wx e1 e2 e3 f1 f2 f3 g1 g2 g3 m1 m2 m3 n1 n2 n3 o1 o2 o3 (HPQ.out wx (bel_tr HB7.out (bel_tr HB79.out hx))).2.2.2.2.1 (HE9.out.same (w' := wx) (fun x _ hlt => hx.block x hlt) (fun x hx' _ => hx')).lt)
                    dsimp only at HSF
                    unfold vE at HSF
                    go_wp2_with (first
                      | (go_at_call 19; (with_reducible refine (HHAS.out _).mono ?_); rintro r5 w11 ⟨rfl, hB⟩; have HB911 := Lib.hid (bel_tr HB99.out hB); replace x0 := cellAt hB x0; replace x1 := cellAt hB x1; replace x2 := cellAt hB x2; replace x3 := cellAt hB x3; replace x4 := cellAt hB x4; replace x5 := cellAt hB x5; replace x6 := cellAt hB x6; replace x7 := cellAt hB x7; replace x8 := cellAt hB x8; replace x9 := cellAt hB x9; replace x10 := cellAt hB x10; replace y0 := cellAt hB y0; replace y1 := cellAt hB y1; replace y2 := cellAt hB y2; replace y3 := cellAt hB y3; replace y4 := cellAt hB y4; replace y5 := cellAt hB y5; replace y6 := cellAt hB y6; replace y7 := cellAt hB y7; replace y8 := cellAt hB y8; replace y9 := cellAt hB y9; replace y10 := cellAt hB y10; replace z0 := cellAt hB z0; replace z1 := cellAt hB z1; replace z2 := cellAt hB z2; replace z3 := cellAt hB z3; replace z4 := cellAt hB z4; replace z5 := cellAt hB z5; replace z6 := cellAt hB z6; replace z7 := cellAt hB z7; replace z8 := cellAt hB z8; replace z9 := cellAt hB z9; replace z10 := cellAt hB z10; clear hB)
                      | (go_at_call 15; (with_reducible refine (HSF.out _ HB911.out).mono ?_); rintro r5 w12 ⟨rfl, hB⟩; have HB912 := Lib.hid (bel_tr HB911.out hB); replace x0 := cellAt hB x0; replace x1 := cellAt hB x1; replace x2 := cellAt hB x2; replace x3 := cellAt hB x3; replace x4 := cellAt hB x4; replace x5 := cellAt hB x5; replace x6 := cellAt hB x6; replace x7 := cellAt hB x7; replace x8 := cellAt hB x8; replace x9 := cellAt hB x9; replace x10 := cellAt hB x10; replace y0 := cellAt hB y0; replace y1 := cellAt hB y1; replace y2 := cellAt hB y2; replace y3 := cellAt hB y3; replace y4 := cellAt hB y4; replace y5 := cellAt hB y5; replace y6 := cellAt hB y6; replace y7 := cellAt hB y7; replace y8 := cellAt hB y8; replace y9 := cellAt hB y9; replace y10 := cellAt hB y10; replace z0 := cellAt hB z0; replace z1 := cellAt hB z1; replace z2 := cellAt hB z2; replace z3 := cellAt hB z3; replace z4 := cellAt hB z4; replace z5 := cellAt hB z5; replace z6 := cellAt hB z6; replace z7 := cellAt hB z7; replace z8 := cellAt hB z8; replace z9 := cellAt hB z9; replace z10 := cellAt hB z10; clear hB))
                    go_roundw
                    case rel => exact HNX.out _ _ _ (by first | rfl | (rw [HOR.out] <;> rfl)) (by first | rfl | (rw [HOF2.out] <;> rfl)) (bel_tr HB79.out HB912.out)
                    case measure => simp [intOf]; have := HJ.out; omega
    · have hj1 : ¬ (j : Int) < (wn : Int) := by omega
      have hjl : j = L.length := by have := HWN.out; omega
      rw [hjl, HEND.out.1, HEND.out.2]
      rw [hjl] at hj1
      clear hjl hj hBr hB6r hjn
      have hfa : (fA == fA) = true := by cases fA <;> rfl
      have hff : (fF == fF) = true := by cases fF <;> rfl
      go_wp2_with (go_at_call 11; (with_reducible refine (HW.out _).mono ?_); rintro r9 w18 ⟨rfl, hB⟩; have HB18 := Lib.hid (bel_tr HBW.out hB); clear hB)
      go_ret
      exact ⟨rfl, HB18.out⟩
end Go.Proofs.YtbldidiibkcelaaGreatDoor

