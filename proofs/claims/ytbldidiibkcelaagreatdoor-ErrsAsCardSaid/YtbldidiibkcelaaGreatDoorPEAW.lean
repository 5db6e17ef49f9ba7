/-
  ErrsAs (walk): the law. Not a statement of the seat.
-/
import Derived.Test.YtbldidiibkcelaaGreatDoorPEAs6
namespace Go.Proofs.YtbldidiibkcelaaGreatDoor
open Go.RowKit

theorem plain34 (c : Int) (w : World) : Calls Tryz.prog 34 #[.int .i64 c] w (fun e w' => e = .returned (vE 1 0 c [112] Dt.zero none 0 0 none 0 0 none 0 0) ∧ Below w.heap.size w w') := by
  have hA := zbox_blk w
  have hB := zbox_below w
  unfold vE
  go_enter Tryz.func34, Tryz.ntmps34
  go_upto_region 1 with (fail)
  change Code.wp _ _ _ _ (zbox w)
  generalize zbox w = w1 at *
  have c0 := hA.cell 0 rfl; have c1 := hA.cell 1 rfl; have c2 := hA.cell 2 rfl; have c3 := hA.cell 3 rfl; have c4 := hA.cell 4 rfl; have c5 := hA.cell 5 rfl; have c6 := hA.cell 6 rfl; have c7 := hA.cell 7 rfl; have c8 := hA.cell 8 rfl; have c9 := hA.cell 9 rfl; have c10 := hA.cell 10 rfl
  have f0 := hA.free 0 (by simp [Z11]); have f1 := hA.free 1 (by simp [Z11]); have f2 := hA.free 2 (by simp [Z11]); have f3 := hA.free 3 (by simp [Z11]); have f4 := hA.free 4 (by simp [Z11]); have f5 := hA.free 5 (by simp [Z11]); have f6 := hA.free 6 (by simp [Z11]); have f7 := hA.free 7 (by simp [Z11]); have f8 := hA.free 8 (by simp [Z11]); have f9 := hA.free 9 (by simp [Z11]); have f10 := hA.free 10 (by simp [Z11])
  have HA := Lib.hid hA
  have HB := Lib.hid hB
  clear hA hB
  go_wp2_with fail
  exact er_fin Tryz.results34 rfl (Nat.le_refl _) HB.out HA.out
theorem plain77 (w : World) : Calls Tryz.prog 34 #[.int .i64 77] w (fun e w' => e = .returned (.agg #[.int .i64 1, .int .i64 0, .int .i64 77, .string ⟨#[112]⟩, .int .i64 0, .int .i64 0, .int .u64 0, .string ⟨#[]⟩, .slice none 0 0, .slice none 0 0, .slice none 0 0]) ∧ Below w.heap.size w w') := plain34 77 w
def OwR (sz B : Nat) (l : Option Addr) (n c : Nat) (w9 : World) (t : Value) (wr : World) : Prop :=
  ∃ (j : Nat) (cs : List Value), t = .int .i64 (j : Nat) ∧ j ≤ n ∧ Row B wr sz l n c cs ∧ Kept (fun x => blockOf l = some x) w9 wr
theorem row_cells {B : Nat} {w : World} {bb off n c j : Nat} {cs : List Value} (h : Row B w 11 (some ⟨bb, off, none⟩) n c cs) (hj : j < n) :
    (∃ v0 v1 v2 v3 v4 v5 v6 v7 v8 v9 v10, w.cell? ⟨bb, off + j * 11, none⟩ = some v0 ∧ w.cell? ⟨bb, off + j * 11 + 1, none⟩ = some v1 ∧ w.cell? ⟨bb, off + j * 11 + 2, none⟩ = some v2 ∧ w.cell? ⟨bb, off + j * 11 + 3, none⟩ = some v3 ∧ w.cell? ⟨bb, off + j * 11 + 4, none⟩ = some v4 ∧ w.cell? ⟨bb, off + j * 11 + 5, none⟩ = some v5 ∧ w.cell? ⟨bb, off + j * 11 + 6, none⟩ = some v6 ∧ w.cell? ⟨bb, off + j * 11 + 7, none⟩ = some v7 ∧ w.cell? ⟨bb, off + j * 11 + 8, none⟩ = some v8 ∧ w.cell? ⟨bb, off + j * 11 + 9, none⟩ = some v9 ∧ w.cell? ⟨bb, off + j * 11 + 10, none⟩ = some v10) ∧
    (w.frozen? ⟨bb, off + j * 11, none⟩ = false ∧ w.frozen? ⟨bb, off + j * 11 + 1, none⟩ = false ∧ w.frozen? ⟨bb, off + j * 11 + 2, none⟩ = false ∧ w.frozen? ⟨bb, off + j * 11 + 3, none⟩ = false ∧ w.frozen? ⟨bb, off + j * 11 + 4, none⟩ = false ∧ w.frozen? ⟨bb, off + j * 11 + 5, none⟩ = false ∧ w.frozen? ⟨bb, off + j * 11 + 6, none⟩ = false ∧ w.frozen? ⟨bb, off + j * 11 + 7, none⟩ = false ∧ w.frozen? ⟨bb, off + j * 11 + 8, none⟩ = false ∧ w.frozen? ⟨bb, off + j * 11 + 9, none⟩ = false ∧ w.frozen? ⟨bb, off + j * 11 + 10, none⟩ = false) := by
  obtain ⟨h1, h2, _, h4⟩ := h
  rcases h4 with ⟨h4, _⟩ | ⟨b, o, e, _, _, _, hs⟩
  · cases h4
  · cases e
    have hc : ∀ r, r < 11 → ∃ v, w.cell? ⟨bb, off + (j * 11 + r), none⟩ = some v := fun r hr => Option.isSome_iff_exists.1 (hs (j * 11 + r) (by omega)).1
    have hf : ∀ r, r < 11 → w.frozen? ⟨bb, off + (j * 11 + r), none⟩ = false := fun r hr => (hs (j * 11 + r) (by omega)).2
    obtain ⟨v0, e0⟩ := hc 0 (by omega)
    obtain ⟨v1, e1⟩ := hc 1 (by omega)
    obtain ⟨v2, e2⟩ := hc 2 (by omega)
    obtain ⟨v3, e3⟩ := hc 3 (by omega)
    obtain ⟨v4, e4⟩ := hc 4 (by omega)
    obtain ⟨v5, e5⟩ := hc 5 (by omega)
    obtain ⟨v6, e6⟩ := hc 6 (by omega)
    obtain ⟨v7, e7⟩ := hc 7 (by omega)
    obtain ⟨v8, e8⟩ := hc 8 (by omega)
    obtain ⟨v9, e9⟩ := hc 9 (by omega)
    obtain ⟨v10, e10⟩ := hc 10 (by omega)
    exact ⟨⟨v0, v1, v2, v3, v4, v5, v6, v7, v8, v9, v10, e0, e1, e2, e3, e4, e5, e6, e7, e8, e9, e10⟩, hf 0 (by omega), hf 1 (by omega), hf 2 (by omega), hf 3 (by omega), hf 4 (by omega), hf 5 (by omega), hf 6 (by omega), hf 7 (by omega), hf 8 (by omega), hf 9 (by omega), hf 10 (by omega)⟩
def st11o (w : World) (b o : Nat) (v0 v1 v2 v3 v4 v5 v6 v7 v8 v9 v10 : Value) : World :=
  (((((((((((w.setCell ⟨b, o, none⟩ v0).setCell ⟨b, o + 1, none⟩ v1).setCell ⟨b, o + 2, none⟩ v2).setCell ⟨b, o + 3, none⟩ v3).setCell ⟨b, o + 4, none⟩ v4).setCell ⟨b, o + 5, none⟩ v5).setCell ⟨b, o + 6, none⟩ v6).setCell ⟨b, o + 7, none⟩ v7).setCell ⟨b, o + 8, none⟩ v8).setCell ⟨b, o + 9, none⟩ v9).setCell ⟨b, o + 10, none⟩ v10)
theorem row_st11 {B : Nat} {w : World} {bb off n c j : Nat} {cs : List Value} (h : Row B w 11 (some ⟨bb, off, none⟩) n c cs) (v0 v1 v2 v3 v4 v5 v6 v7 v8 v9 v10 : Value) : ∃ cs', Row B (st11o w bb (off + j * 11) v0 v1 v2 v3 v4 v5 v6 v7 v8 v9 v10) 11 (some ⟨bb, off, none⟩) n c cs' :=
  ⟨_, (((((((((((h.set rfl (j := j * 11) v0).set rfl (j := j * 11 + 1) v1).set rfl (j := j * 11 + 2) v2).set rfl (j := j * 11 + 3) v3).set rfl (j := j * 11 + 4) v4).set rfl (j := j * 11 + 5) v5).set rfl (j := j * 11 + 6) v6).set rfl (j := j * 11 + 7) v7).set rfl (j := j * 11 + 8) v8).set rfl (j := j * 11 + 9) v9).set rfl (j := j * 11 + 10) v10)⟩
theorem st11o_kept {N : Nat → Prop} {w9 w : World} {b : Nat} (h : Kept N w9 w) (o : Nat) (hb : N b) (v0 v1 v2 v3 v4 v5 v6 v7 v8 v9 v10 : Value) : Kept N w9 (st11o w b o v0 v1 v2 v3 v4 v5 v6 v7 v8 v9 v10) :=
  (((((((((((h.put (p := ⟨b, o, none⟩) v0 (fun _ => hb)).put (p := ⟨b, o + 1, none⟩) v1 (fun _ => hb)).put (p := ⟨b, o + 2, none⟩) v2 (fun _ => hb)).put (p := ⟨b, o + 3, none⟩) v3 (fun _ => hb)).put (p := ⟨b, o + 4, none⟩) v4 (fun _ => hb)).put (p := ⟨b, o + 5, none⟩) v5 (fun _ => hb)).put (p := ⟨b, o + 6, none⟩) v6 (fun _ => hb)).put (p := ⟨b, o + 7, none⟩) v7 (fun _ => hb)).put (p := ⟨b, o + 8, none⟩) v8 (fun _ => hb)).put (p := ⟨b, o + 9, none⟩) v9 (fun _ => hb)).put (p := ⟨b, o + 10, none⟩) v10 (fun _ => hb))
set_option maxRecDepth 100000 in
set_option maxHeartbeats 16000000 in
theorem errsAsT {S : Nat → Prop} {e : Et} {bl : Option Addr} {bn bc : Nat} {cl : Option Addr} {cn cc : Nat} {l : Option Addr} {n cap : Nat} {m fc : Int} {w : World}
    (hE : ErAt S w e bl bn bc cl cn cc l n cap) (hS : ∀ x, S x → x < w.heap.size) (hcs : e.cs.length ≤ 140737488355328) (hks : e.l.small) (hg : w.cell? ⟨1, 0, none⟩ = some (rty 68)) :
    Calls Tryz.prog 8 #[vE e.k e.i e.c e.t e.b bl bn bc cl cn cc l n cap, .int .i64 m, .int .i64 fc] w (fun r w' => r = .returned (.bool true) ∧ Below w.heap.size w w') := by
  have hEx : ∀ wx, Below w.heap.size w wx → ErAt S wx e bl bn bc cl cn cc l n cap := fun wx hx => hE.same (fun x _ hlt => hx.block x hlt) (fun x hx _ => hx)
  have hSx : ∀ wx, Below w.heap.size w wx → ∀ x, S x → x < wx.heap.size := fun wx hx x hx' => Nat.lt_of_lt_of_le (hS x hx') hx.size
  have hlt := World.block_lt_of_cell? _ _ hg
  have HGX := Lib.hid (show ∀ wx, Below w.heap.size w wx → wx.cell? ⟨1, 0, none⟩ = some (rty 68) from fun wx hx => (World.cell?_of_block (a := ⟨1, 0, none⟩) (hx.block 1 hlt)).trans hg)
  have HV1 := Lib.hid (fun (wx : World) (hx : Below w.heap.size w wx) => show Calls Tryz.prog 10 #[vE e.k e.i e.c e.t e.b bl bn bc cl cn cc l n cap] wx (fun r w' => r = .returned (.bool (ervalidM e)) ∧ Below wx.heap.size wx w') from ervalidN (hEx wx hx) (hSx wx hx) hcs hks)
  have HW := Lib.hid (fun (wx : World) => awakeT wx)
  have hA := ebox_blk w e.k e.i e.c e.t e.b bl bn bc cl cn cc l n cap
  have hB := ebox_below w e.k e.i e.c e.t e.b bl bn bc cl cn cc l n cap
  have hs1 := ebox_size w e.k e.i e.c e.t e.b bl bn bc cl cn cc l n cap
  have hok := (ervalid_ok e).1
  unfold vE at HV1 ⊢
  go_enter Tryz.func8, Tryz.ntmps8
  go_upto_region 1 with (fail)
  change Code.wp _ _ _ _ (ebox w e.k e.i e.c e.t e.b bl bn bc cl cn cc l n cap)
  generalize ebox w e.k e.i e.c e.t e.b bl bn bc cl cn cc l n cap = w1 at *
  obtain ⟨p, hp⟩ : ∃ x, x = w.heap.size := ⟨_, rfl⟩
  rw [← hp] at hA
  rw [← hp]
  have x0 := hA.cell 0 rfl
  have x1 := hA.cell 1 rfl
  have x2 := hA.cell 2 rfl
  have x3 := hA.cell 3 rfl
  have x4 := hA.cell 4 rfl
  have x5 := hA.cell 5 rfl
  have x6 := hA.cell 6 rfl
  have x7 := hA.cell 7 rfl
  have x8 := hA.cell 8 rfl
  have x9 := hA.cell 9 rfl
  have x10 := hA.cell 10 rfl
  have HB := Lib.hid hB
  have HA := Lib.hid hA
  have HPS := Lib.hid (And.intro hp hs1)
  generalize ervalidM e = v1 at *
  clear hA hB hp hs1 hlt hg
  cases v1
  · go_wp2_with (first
      | (go_at_call 10; (with_reducible refine (HV1.out _ HB.out).mono ?_); rintro r2 w2 ⟨rfl, hB⟩; have HB2 := Lib.hid (bel_tr HB.out hB); clear hB)
      | (go_at_call 11; (with_reducible refine (HW.out _).mono ?_); rintro r3 w3 ⟨rfl, hB⟩; have HB3 := Lib.hid (bel_tr HB2.out hB); clear hB))
    go_ret
    exact ⟨rfl, HB3.out⟩
  have hokE := hok rfl
  clear hok
  obtain ⟨k, i, c, t, b, cs, kids⟩ := e
  have hRt : rightE ⟨k, i, c, t, b, cs, kids⟩ = true := hokE.2.2.1
  have hOS := hokE.okS
  have hd16 : ehi kids ≤ 16 := by have := hokE.2.1; dsimp only at this; omega
  have HCP := Lib.hid (fun (wx : World) (hx : Below w.heap.size w wx) => ecopyG kids k i c t b cs bl bn bc cl cn cc l n cap S wx (hEx wx hx) (hSx wx hx) hOS.1 hOS.2.1 hOS.2.2.1 hOS.2.2.2)
  have HEX := Lib.hid (And.intro hEx hSx)
  have HRO := Lib.hid (And.intro hRt (And.intro hOS hd16))
  unfold vE at HCP
  clear hEx hSx hE hS hokE hRt hOS hd16 hcs hks
  go_upto_region 4 with (first
    | (go_at_call 10; (with_reducible refine (HV1.out _ HB.out).mono ?_); rintro r2 w2 ⟨rfl, hB⟩; have HB2 := Lib.hid (bel_tr HB.out hB); have HA2 := Lib.hid (HA.out.below hB); replace x0 := cellAt hB x0; replace x1 := cellAt hB x1; replace x2 := cellAt hB x2; replace x3 := cellAt hB x3; replace x4 := cellAt hB x4; replace x5 := cellAt hB x5; replace x6 := cellAt hB x6; replace x7 := cellAt hB x7; replace x8 := cellAt hB x8; replace x9 := cellAt hB x9; replace x10 := cellAt hB x10; clear hB)
    | (go_at_call 25; (with_reducible refine (HCP.out _ HB2.out).mono ?_); intro r3 w3 h3; obtain ⟨blo, bno, bco, clo, cno, cco, lo, no, co, rfl, hE3, hB⟩ := CLE.er h3; clear h3; unfold vE; have HE3 := Lib.hid hE3.lt; have HB3 := Lib.hid (bel_tr HB2.out hB); have HA3 := Lib.hid (HA2.out.below hB); clear hB hE3))
  change Code.wp _ _ _ _ (ebox w3 k i c t b blo bno bco clo cno cco lo no co)
  have hO := ebox_blk w3 k i c t b blo bno bco clo cno cco lo no co
  have hB4 := ebox_below w3 k i c t b blo bno bco clo cno cco lo no co
  have hs4 := ebox_size w3 k i c t b blo bno bco clo cno cco lo no co
  generalize ebox w3 k i c t b blo bno bco clo cno cco lo no co = w4 at *
  obtain ⟨o, ho⟩ : ∃ x, x = w3.heap.size := ⟨_, rfl⟩
  rw [← ho] at hO
  rw [← ho]
  have HB4 := Lib.hid (bel_tr HB3.out hB4)
  have hP4 := HA3.out.below hB4
  have HLTO := Lib.hid (show p < o ∧ o < w4.heap.size from by have h1 := HA3.out.1; omega)
  -- all later worlds
  have HKEY := Lib.hid (show ∀ wx, Below w4.heap.size w4 wx → Blk wx p (V11 k i c t b bl bn bc cl cn cc l n cap) ∧ Blk wx o (V11 k i c t b blo bno bco clo cno cco lo no co) ∧ ErAt (fun x => x < wx.heap.size) wx ⟨k, i, c, t, b, cs, kids⟩ bl bn bc cl cn cc l n cap ∧ ErAt (fun x => x < wx.heap.size) wx ⟨k, i, c, t, b, cs, kids⟩ blo bno bco clo cno cco lo no co ∧ wx.cell? ⟨1, 0, none⟩ = some (rty 68) from
    fun wx hx => ⟨hP4.below hx, hO.below hx, (HEX.out.1 wx (HB4.out.trans (hx.mono HB4.out.size))).lt, (HE3.out.same (w' := wx) (fun x _ hlt => (bel_tr hB4 hx).block x hlt) (fun x hx' _ => hx')).lt, HGX.out wx (HB4.out.trans (hx.mono HB4.out.size))⟩)
  clear hO hB4 hs4 ho hP4 HV1 HCP HA HA2 HA3 HE3 HPS HEX HGX x0 x1 x2 x3 x4 x5 x6 x7 x8 x9 x10
  have HC32 := Lib.hid (fun (wx : World) (hx : Below w4.heap.size w4 wx) => as32 (m := m) (HKEY.out wx hx).2.2.2.2 (HKEY.out wx hx).2.2.2.1 (fun _ h => h) HRO.out.1 HRO.out.2.1)
  have HC33 := Lib.hid (fun (wx : World) (hx : Below w4.heap.size w4 wx) => rasG m kids k i c t b cs bl bn bc cl cn cc l n cap _ wx (HKEY.out wx hx).2.2.1 (fun _ h => h) HRO.out.1 HRO.out.2.1)
  have HC35 := Lib.hid (fun (wx : World) (hx : Below w4.heap.size w4 wx) => asface35 (m := fc) (HKEY.out wx hx).2.2.2.1 (fun _ h => h) HRO.out.1 HRO.out.2.1 (by have := HRO.out.2.2; omega))
  have HC36 := Lib.hid (fun (wx : World) (hx : Below w4.heap.size w4 wx) => rasfaceG fc kids k i c t b cs bl bn bc cl cn cc l n cap _ wx (HKEY.out wx hx).2.2.1 (fun _ h => h) HRO.out.1 HRO.out.2.1)
  have HC15 := Lib.hid (fun (wx : World) (hx : Below w4.heap.size w4 wx) => ersameG kids kids _ _ _ _ _ _ _ _ _ _ _ _ _ _ _ _ _ _ _ _ _ _ _ _ _ _ _ _ _ _ (fun x => x < wx.heap.size) wx (HKEY.out wx hx).2.2.2.1 (HKEY.out wx hx).2.2.1 (fun _ h => h))
  have hsm0 := esame1_refl k i c t b cs kids
  rw [hsm0] at HC15
  have HS15 := Lib.hid (fun (x : Et) (wx : World) (b1 : Option Addr) (b2 b3 : Nat) (c1 : Option Addr) (c2 c3 : Nat) (l1 : Option Addr) (l2 l3 : Nat) (d1 : Option Addr) (d2 d3 : Nat) (e1 : Option Addr) (e2 e3 : Nat) (g1 : Option Addr) (g2 g3 : Nat) (h1 : ErAt (fun y => y < wx.heap.size) wx x b1 b2 b3 c1 c2 c3 l1 l2 l3) (h2 : ErAt (fun y => y < wx.heap.size) wx x d1 d2 d3 e1 e2 e3 g1 g2 g3) =>
    (show Calls Tryz.prog 15 #[vE x.k x.i x.c x.t x.b b1 b2 b3 c1 c2 c3 l1 l2 l3, vE x.k x.i x.c x.t x.b d1 d2 d3 e1 e2 e3 g1 g2 g3] wx (fun e w' => e = .returned (.bool true) ∧ Below wx.heap.size wx w') from by
      have h := ersameG x.l x.l x.k x.i x.c x.k x.i x.c x.t x.t x.b x.b x.cs x.cs b1 b2 b3 c1 c2 c3 l1 l2 l3 d1 d2 d3 e1 e2 e3 g1 g2 g3 (fun y => y < wx.heap.size) wx h1 h2 (fun _ h => h)
      rw [esame1_refl] at h
      exact h))
  clear hsm0
  generalize (as1 m ⟨k, i, c, t, b, cs, kids⟩).isSome = fA at *
  generalize (as1 m ⟨k, i, c, t, b, cs, kids⟩).getD Et.zero = A at *
  generalize (fnd1 fc ⟨k, i, c, t, b, cs, kids⟩).isSome = fF at *
  generalize (fnd1 fc ⟨k, i, c, t, b, cs, kids⟩).getD Et.zero = F at *
  obtain ⟨ak, ai, ac, aT, aB, acs, aL⟩ := A
  obtain ⟨fk, fi, fC, fT, fB, fcs, fL⟩ := F
  dsimp only at HC32 HC33 HC35 HC36
  have HQ := Lib.hid (HKEY.out w4 (Below.refl _ _)).2.1
  have x0 := HQ.out.cell 0 rfl
  have x1 := HQ.out.cell 1 rfl
  have x2 := HQ.out.cell 2 rfl
  have x3 := HQ.out.cell 3 rfl
  have x4 := HQ.out.cell 4 rfl
  have x5 := HQ.out.cell 5 rfl
  have x6 := HQ.out.cell 6 rfl
  have x7 := HQ.out.cell 7 rfl
  have x8 := HQ.out.cell 8 rfl
  have x9 := HQ.out.cell 9 rfl
  have x10 := HQ.out.cell 10 rfl
  unfold vE at HC32 HC33 HC35 HC36 HC15
  go_upto_region 5 with (go_at_call 32; (with_reducible refine (HC32.out _ (Below.refl _ _)).mono ?_); intro r5 w5 h5; obtain ⟨b1, b2, b3, c1, c2, c3, l1, l2, l3, vs, rfl, hF5, hC5, ⟨hR5, hT5⟩, hB5⟩ := CLT.ahead h5; unfold vE; have HB5 := Lib.hid hB5; have HR5 := Lib.hid (And.intro hC5 hR5); have HE5 := Lib.hid (show ErAt (fun y => y < w5.heap.size) w5 ⟨ak, ai, ac, aT, aB, acs, aL⟩ b1 b2 b3 c1 c2 c3 l1 l2 l3 from (show ErAt (fun y => w4.heap.size ≤ y) w5 ⟨ak, ai, ac, aT, aB, acs, aL⟩ b1 b2 b3 c1 c2 c3 l1 l2 l3 from ⟨hF5, ⟨hC5.rd, fun x _ hx => (hC5.lt x hx).1⟩, vs, ⟨hR5.rd, fun x _ hx => (hR5.lt x hx).1⟩, EAt.same _ hT5 (fun _ _ _ => rfl) (fun x hx _ => hx.1)⟩).lt); clear h5 hF5 hC5 hR5 hT5 hB5)
  change Code.wp _ _ _ _ (ebox w5 ak ai ac aT aB b1 b2 b3 c1 c2 c3 l1 l2 l3)
  have hA6 := ebox_blk w5 ak ai ac aT aB b1 b2 b3 c1 c2 c3 l1 l2 l3
  have hB6 := ebox_below w5 ak ai ac aT aB b1 b2 b3 c1 c2 c3 l1 l2 l3
  generalize ebox w5 ak ai ac aT aB b1 b2 b3 c1 c2 c3 l1 l2 l3 = w6 at *
  obtain ⟨a, ha⟩ : ∃ x, x = w5.heap.size := ⟨_, rfl⟩
  rw [← ha] at hA6
  rw [← ha]
  have HB6 := Lib.hid (bel_tr HB5.out hB6)
  have HB56 := Lib.hid hB6
  have HA6 := Lib.hid hA6
  have HAL := Lib.hid (And.intro ha (show w4.heap.size ≤ a from by rw [ha]; exact HB5.out.size))
  clear hA6 hB6 ha x0 x1 x2 x3 x4 x5 x6 x7 x8 x9 x10 HQ
  have HP6 := Lib.hid (HKEY.out w6 HB6.out).1
  have x0 := HP6.out.cell 0 rfl
  have x1 := HP6.out.cell 1 rfl
  have x2 := HP6.out.cell 2 rfl
  have x3 := HP6.out.cell 3 rfl
  have x4 := HP6.out.cell 4 rfl
  have x5 := HP6.out.cell 5 rfl
  have x6 := HP6.out.cell 6 rfl
  have x7 := HP6.out.cell 7 rfl
  have x8 := HP6.out.cell 8 rfl
  have x9 := HP6.out.cell 9 rfl
  have x10 := HP6.out.cell 10 rfl
  go_upto_region 6 with (go_at_call 33; (with_reducible refine (HC33.out _ HB6.out).mono ?_); intro r7 w7 h7; obtain ⟨d1, d2, d3, e1, e2, e3, g1, g2, g3, us, rfl, hF7, hC7, ⟨hR7, hT7⟩, hB7⟩ := CLT.ahead h7; unfold vE; have HB7 := Lib.hid (bel_tr HB6.out hB7); have HB67 := Lib.hid hB7; have HE7 := Lib.hid (show ErAt (fun y => y < w7.heap.size) w7 ⟨ak, ai, ac, aT, aB, acs, aL⟩ d1 d2 d3 e1 e2 e3 g1 g2 g3 from (show ErAt (fun y => w6.heap.size ≤ y) w7 ⟨ak, ai, ac, aT, aB, acs, aL⟩ d1 d2 d3 e1 e2 e3 g1 g2 g3 from ⟨hF7, ⟨hC7.rd, fun x _ hx => (hC7.lt x hx).1⟩, us, ⟨hR7.rd, fun x _ hx => (hR7.lt x hx).1⟩, EAt.same _ hT7 (fun _ _ _ => rfl) (fun x hx _ => hx.1)⟩).lt); clear h7 hF7 hC7 hR7 hT7 hB7)
  change Code.wp _ _ _ _ (ebox w7 ak ai ac aT aB d1 d2 d3 e1 e2 e3 g1 g2 g3)
  have hA8 := ebox_blk w7 ak ai ac aT aB d1 d2 d3 e1 e2 e3 g1 g2 g3
  have hB8 := ebox_below w7 ak ai ac aT aB d1 d2 d3 e1 e2 e3 g1 g2 g3
  generalize ebox w7 ak ai ac aT aB d1 d2 d3 e1 e2 e3 g1 g2 g3 = w8 at *
  obtain ⟨q, hq⟩ : ∃ x, x = w7.heap.size := ⟨_, rfl⟩
  rw [← hq] at hA8
  rw [← hq]
  have HB8 := Lib.hid (bel_tr HB7.out hB8)
  have HB68 := Lib.hid (bel_tr HB67.out hB8)
  have HA8 := Lib.hid (HA6.out.below HB68.out)
  have HQ8 := Lib.hid hA8
  have HAQ := Lib.hid (show a < q ∧ q < w8.heap.size from ⟨by rw [hq]; exact Nat.lt_of_lt_of_le HA6.out.1 HB67.out.size, hA8.1⟩)
  have HSM := Lib.hid (HS15.out ⟨ak, ai, ac, aT, aB, acs, aL⟩ w8 _ _ _ _ _ _ _ _ _ _ _ _ _ _ _ _ _ _ (HE5.out.same (w' := w8) (fun x _ hlt => (bel_tr HB56.out HB68.out).block x hlt) (fun x hx' _ => hx')).lt (HE7.out.same (w' := w8) (fun x _ hlt => hB8.block x hlt) (fun x hx' _ => hx')).lt)
  have HR8 := Lib.hid (show Row w4.heap.size w8 11 l1 l2 l3 vs from HR5.out.2.below (bel_tr HB56.out HB68.out))
  have HL1 := Lib.hid (show ∀ x, blockOf l1 = some x → w4.heap.size ≤ x ∧ x ≠ a ∧ x ≠ q from fun x hx => by
    have h1 := HR5.out.2.lt x hx
    have h2 := HAL.out.1
    have h3 := HAQ.out
    omega)
  clear hA8 hB8 hq x0 x1 x2 x3 x4 x5 x6 x7 x8 x9 x10 HP6 HA6 HR5 HE5 HE7 HB56 HB67 HB68 HC32 HC33
  dsimp only at HSM
  unfold vE at HSM
  have x0 := HA8.out.cell 0 rfl
  have x1 := HA8.out.cell 1 rfl
  have x2 := HA8.out.cell 2 rfl
  have x3 := HA8.out.cell 3 rfl
  have x4 := HA8.out.cell 4 rfl
  have x5 := HA8.out.cell 5 rfl
  have x6 := HA8.out.cell 6 rfl
  have x7 := HA8.out.cell 7 rfl
  have x8 := HA8.out.cell 8 rfl
  have x9 := HA8.out.cell 9 rfl
  have x10 := HA8.out.cell 10 rfl
  have y0 := HQ8.out.cell 0 rfl
  have y1 := HQ8.out.cell 1 rfl
  have y2 := HQ8.out.cell 2 rfl
  have y3 := HQ8.out.cell 3 rfl
  have y4 := HQ8.out.cell 4 rfl
  have y5 := HQ8.out.cell 5 rfl
  have y6 := HQ8.out.cell 6 rfl
  have y7 := HQ8.out.cell 7 rfl
  have y8 := HQ8.out.cell 8 rfl
  have y9 := HQ8.out.cell 9 rfl
  have y10 := HQ8.out.cell 10 rfl
  have hff : (fA != fA) = false := by cases fA <;> rfl
  go_upto_block 0 with (go_at_call 15; (with_reducible refine HSM.out.mono ?_); rintro r9 w9 ⟨rfl, hB⟩; have HB9 := Lib.hid (bel_tr HB8.out hB); have HA9 := Lib.hid (HA8.out.below hB); have HQ9 := Lib.hid (HQ8.out.below hB); have HR9 := Lib.hid (HR8.out.below hB); replace x0 := cellAt hB x0; replace x1 := cellAt hB x1; replace x2 := cellAt hB x2; replace x3 := cellAt hB x3; replace x4 := cellAt hB x4; replace x5 := cellAt hB x5; replace x6 := cellAt hB x6; replace x7 := cellAt hB x7; replace x8 := cellAt hB x8; replace x9 := cellAt hB x9; replace x10 := cellAt hB x10; replace y0 := cellAt hB y0; replace y1 := cellAt hB y1; replace y2 := cellAt hB y2; replace y3 := cellAt hB y3; replace y4 := cellAt hB y4; replace y5 := cellAt hB y5; replace y6 := cellAt hB y6; replace y7 := cellAt hB y7; replace y8 := cellAt hB y8; replace y9 := cellAt hB y9; replace y10 := cellAt hB y10; clear hB)

  have H0 := Lib.hid (show OwR 11 w4.heap.size l1 l2 l3 w9 (.int .i64 0) w9 from ⟨0, vs, rfl, Nat.zero_le _, HR9.out, Kept.refl _ _⟩)
  clear HSM x0 x1 x2 x3 x4 x5 x6 x7 x8 x9 x10 y0 y1 y2 y3 y4 y5 y6 y7 y8 y9 y10 HA8 HQ8 hff
  go_wp2_with fail
  go_loopw [44] (fun t44 wr => OwR 11 w4.heap.size l1 l2 l3 w9 t44 wr) (fun t44 _ => l2 - (intOf t44).toNat)
  case atStart => exact H0.out
  case round =>
    obtain ⟨j, cs9, rfl, hj, hR, hK⟩ := hrel
    have HAr := Lib.hid (HA9.out.keep hK (fun h => (HL1.out a h).2.1 rfl))
    have HQr := Lib.hid (HQ9.out.keep hK (fun h => (HL1.out q h).2.2 rfl))
    have HR := Lib.hid hR
    have HK := Lib.hid hK
    clear H0 hR hK
    have z10 := HAr.out.cell 10 rfl
    by_cases hjn : (j : Int) < (l2 : Int)
    · obtain ⟨bb, off, rfl⟩ : ∃ bb off, l1 = some ⟨bb, off, none⟩ := by
        rcases HR.out.2.2.2 with ⟨_, h⟩ | ⟨b, o, h, _⟩
        · have := HR.out.2.1
          omega
        · exact ⟨b, o, h⟩
      have hj9 : j < l2 := by omega
      have hjm : j ≤ 9223372036854775806 := by have := HR.out.2.1; have h := HR.out.2.2.1; unfold maxLen at h; omega
      obtain ⟨⟨v0, v1, v2, v3, v4, v5, v6, v7, v8, v9, v10, a0, a1, a2, a3, a4, a5, a6, a7, a8, a9, a10⟩, g0, g1, g2, g3, g4, g5, g6, g7, g8, g9, g10⟩ := row_cells HR.out hj9
      have hq : ∀ wx, Below wr.heap.size wr wx → (wx.cell? ⟨a, 10, none⟩ = some (.slice (some ⟨bb, off, none⟩) l2 l3) ∧ (wx.cell? ⟨bb, off + j * 11, none⟩ = some v0 ∧ wx.cell? ⟨bb, off + j * 11 + 1, none⟩ = some v1 ∧ wx.cell? ⟨bb, off + j * 11 + 2, none⟩ = some v2 ∧ wx.cell? ⟨bb, off + j * 11 + 3, none⟩ = some v3 ∧ wx.cell? ⟨bb, off + j * 11 + 4, none⟩ = some v4 ∧ wx.cell? ⟨bb, off + j * 11 + 5, none⟩ = some v5 ∧ wx.cell? ⟨bb, off + j * 11 + 6, none⟩ = some v6 ∧ wx.cell? ⟨bb, off + j * 11 + 7, none⟩ = some v7 ∧ wx.cell? ⟨bb, off + j * 11 + 8, none⟩ = some v8 ∧ wx.cell? ⟨bb, off + j * 11 + 9, none⟩ = some v9 ∧ wx.cell? ⟨bb, off + j * 11 + 10, none⟩ = some v10) ∧ (wx.frozen? ⟨bb, off + j * 11, none⟩ = false ∧ wx.frozen? ⟨bb, off + j * 11 + 1, none⟩ = false ∧ wx.frozen? ⟨bb, off + j * 11 + 2, none⟩ = false ∧ wx.frozen? ⟨bb, off + j * 11 + 3, none⟩ = false ∧ wx.frozen? ⟨bb, off + j * 11 + 4, none⟩ = false ∧ wx.frozen? ⟨bb, off + j * 11 + 5, none⟩ = false ∧ wx.frozen? ⟨bb, off + j * 11 + 6, none⟩ = false ∧ wx.frozen? ⟨bb, off + j * 11 + 7, none⟩ = false ∧ wx.frozen? ⟨bb, off + j * 11 + 8, none⟩ = false ∧ wx.frozen? ⟨bb, off + j * 11 + 9, none⟩ = false ∧ wx.frozen? ⟨bb, off + j * 11 + 10, none⟩ = false)) :=
        fun wx hx => ⟨cellAt hx z10, ⟨cellAt hx a0, cellAt hx a1, cellAt hx a2, cellAt hx a3, cellAt hx a4, cellAt hx a5, cellAt hx a6, cellAt hx a7, cellAt hx a8, cellAt hx a9, cellAt hx a10⟩, freeAt hx a0 g0, freeAt hx a1 g1, freeAt hx a2 g2, freeAt hx a3 g3, freeAt hx a4 g4, freeAt hx a5 g5, freeAt hx a6 g6, freeAt hx a7 g7, freeAt hx a8 g8, freeAt hx a9 g9, freeAt hx a10 g10⟩
      have HKEEP := Lib.hid hq
      clear hq a0 a1 a2 a3 a4 a5 a6 a7 a8 a9 a10 g0 g1 g2 g3 g4 g5 g6 g7 g8 g9 g10 z10
      go_wp2_with fail
      refine wp_region_L (S := fun wx : World => wx.cell? ⟨a, 10, none⟩ = some (.slice (some ⟨bb, off, none⟩) l2 l3)) (by kernel_rfl) ?_ (fun hHeld => ?_)
      · exact (HKEEP.out _ (Below.refl _ _).drew).1
      refine takeL (i := 0) 1 (v := ?va0) rfl (by kernel_rfl) (by kernel_rfl) (by kernel_rfl) (by kernel_rfl) (by kernel_rfl) (fun _ _ _ h => h) (Or.inl ⟨by rfl, ?hy0⟩) (by assumption) ?rest0
      case hy0 => (intro w9 hSw; (try dsimp only at hSw); go_simp; try with_reducible rfl)
      try simp only [Act.put, List.setIfInBounds_toArray, List.set_cons_zero, List.set_cons_succ]
      refine takeL (i := 1) 4 (v := ?va1) rfl (by kernel_rfl) (by kernel_rfl) (by kernel_rfl) (by kernel_rfl) (by kernel_rfl) (fun _ _ _ h => h) (Or.inl ⟨by rfl, ?hy1⟩) (by assumption) ?rest1
      case hy1 => (intro w9 hSw; (try dsimp only at hSw); go_simp; try with_reducible rfl)
      try simp only [Act.put, List.setIfInBounds_toArray, List.set_cons_zero, List.set_cons_succ]
      refine takeL (i := 2) 4 (v := ?va2) rfl (by kernel_rfl) (by kernel_rfl) (by kernel_rfl) (by kernel_rfl) (by kernel_rfl) (fun _ _ _ h => h) (Or.inl ⟨by rfl, ?hy2⟩) (by assumption) ?rest2
      case hy2 => (intro w9 hSw; (try dsimp only at hSw); go_simp; try with_reducible rfl)
      try simp only [Act.put, List.setIfInBounds_toArray, List.set_cons_zero, List.set_cons_succ]
      refine oneL (i := 3) (by kernel_rfl) rfl (fun K hK => ?_)
      (go_simp; go_at_call 34; (with_reducible refine (plain77 _).mono ?_); rintro eA wA ⟨rfl, hbA⟩; have HBT := Lib.hid ((Below.refl wr.heap.size wr).drew.trans hbA); clear hbA)
      refine hK.out _ _ ?_ (fun hHeld2 => ?_)
      · exact (HKEEP.out _ HBT.out).1
      clear hK K hHeld
      try simp only [Act.put, List.setIfInBounds_toArray, List.set_cons_zero, List.set_cons_succ]
      refine oneL (i := 4) (by kernel_rfl) rfl (fun K hK => ?_)
      go_simp
      refine hK.out _ _ hHeld2 (fun hHeld => ?_)
      clear hK K hHeld2
      try simp only [Act.put, List.setIfInBounds_toArray, List.set_cons_zero, List.set_cons_succ]
      obtain ⟨hz4, ⟨b0', b1', b2', b3', b4', b5', b6', b7', b8', b9', b10'⟩, m0, m1, m2, m3, m4, m5, m6, m7, m8, m9, m10⟩ := HKEEP.out _ HBT.out
      refine lastL (i := 5) (by kernel_rfl) rfl (by kernel_rfl) (by kernel_rfl) (fun K hK => ?_)
      go_simp
      refine hK.out _ _ ?_
      clear hK K hHeld
      change Exit.inBlock _ _ _ _ (st11o wA bb (off + j * 11) _ _ _ _ _ _ _ _ _ _ _)
      obtain ⟨cs', hR'⟩ := row_st11 (j := j) (HR.out.below HBT.out) (.int .i64 1) (.int .i64 0) (.int .i64 77) (.string ⟨#[112]⟩) (.int .i64 0) (.int .i64 0) (.int .u64 0) (.string ⟨#[]⟩) (.slice none 0 0) (.slice none 0 0) (.slice none 0 0)
      have hK' := st11o_kept (HK.out.calm HBT.out) (b := bb) (off + j * 11) rfl (.int .i64 1) (.int .i64 0) (.int .i64 77) (.string ⟨#[112]⟩) (.int .i64 0) (.int .i64 0) (.int .u64 0) (.string ⟨#[]⟩) (.slice none 0 0) (.slice none 0 0) (.slice none 0 0)
      generalize st11o wA bb (off + j * 11) (.int .i64 1) (.int .i64 0) (.int .i64 77) (.string ⟨#[112]⟩) (.int .i64 0) (.int .i64 0) (.int .u64 0) (.string ⟨#[]⟩) (.slice none 0 0) (.slice none 0 0) (.slice none 0 0) = wS at *
      have HR' := Lib.hid (And.intro hR' hK')
      clear hR' hK' b0' b1' b2' b3' b4' b5' b6' b7' b8' b9' b10' m0 m1 m2 m3 m4 m5 m6 m7 m8 m9 m10 hz4
      go_wp2_with fail
      go_roundw
      case rel => exact ⟨j + 1, cs', by go_num, hj9, HR'.out.1, HR'.out.2⟩
      case measure => simp [intOf]; omega
    · have hBR : Below w4.heap.size w4 wr := HB9.out.trans (HK.out.below (by have := HB9.out.size; omega) (fun x hx h => by have := (HL1.out x h).1; omega))
      obtain ⟨w10, rfl⟩ : ∃ x, x = wr := ⟨_, rfl⟩
      have HB10 := Lib.hid hBR
      have HO10 := Lib.hid (HKEY.out w10 hBR).2.1
      clear HR HK hBR z10 HL1 HA9 HQ9 HB9 HR9 HR8
      have x0 := HO10.out.cell 0 rfl
      have x1 := HO10.out.cell 1 rfl
      have x2 := HO10.out.cell 2 rfl
      have x3 := HO10.out.cell 3 rfl
      have x4 := HO10.out.cell 4 rfl
      have x5 := HO10.out.cell 5 rfl
      have x6 := HO10.out.cell 6 rfl
      have x7 := HO10.out.cell 7 rfl
      have x8 := HO10.out.cell 8 rfl
      have x9 := HO10.out.cell 9 rfl
      have x10 := HO10.out.cell 10 rfl
      go_upto_region 14 with (go_at_call 35; (with_reducible refine (HC35.out _ HB10.out).mono ?_); intro r5 w11 h5; obtain ⟨m1, m2, m3, n1, n2, n3, o1, o2, o3, vs2, rfl, hF5, hC5, ⟨hR5, hT5⟩, hB5⟩ := CLT.ahead h5; unfold vE; have HB11 := Lib.hid hB5; have HC11 := Lib.hid hC5; have HE11 := Lib.hid (show ErAt (fun y => w10.heap.size ≤ y) w11 ⟨fk, fi, fC, fT, fB, fcs, fL⟩ m1 m2 m3 n1 n2 n3 o1 o2 o3 from ⟨hF5, ⟨hC5.rd, fun x _ hx => (hC5.lt x hx).1⟩, vs2, ⟨hR5.rd, fun x _ hx => (hR5.lt x hx).1⟩, EAt.same _ hT5 (fun _ _ _ => rfl) (fun x hx _ => hx.1)⟩); have HA11 := Lib.hid (HAr.out.below hB5); have HQ11 := Lib.hid (HQr.out.below hB5); have a0 := HA11.out.cell 0 rfl; have f0 := HA11.out.free 0 (by simp [V11]); have a1 := HA11.out.cell 1 rfl; have f1 := HA11.out.free 1 (by simp [V11]); have a2 := HA11.out.cell 2 rfl; have f2 := HA11.out.free 2 (by simp [V11]); have a3 := HA11.out.cell 3 rfl; have f3 := HA11.out.free 3 (by simp [V11]); have a4 := HA11.out.cell 4 rfl; have f4 := HA11.out.free 4 (by simp [V11]); have a5 := HA11.out.cell 5 rfl; have f5 := HA11.out.free 5 (by simp [V11]); have a6 := HA11.out.cell 6 rfl; have f6 := HA11.out.free 6 (by simp [V11]); have a7 := HA11.out.cell 7 rfl; have f7 := HA11.out.free 7 (by simp [V11]); have a8 := HA11.out.cell 8 rfl; have f8 := HA11.out.free 8 (by simp [V11]); have a9 := HA11.out.cell 9 rfl; have f9 := HA11.out.free 9 (by simp [V11]); have a10 := HA11.out.cell 10 rfl; have f10 := HA11.out.free 10 (by simp [V11]); clear h5 hF5 hC5 hR5 hT5 hB5)
      change Code.wp _ _ _ _ (st11 w11 a (.int .i64 fk) (.int .i64 fi) (.int .i64 fC) (.string ⟨fT.toArray⟩) (.int .i64 fB.k) (.int .i64 fB.i) (.int .u64 fB.b) (.string ⟨fB.t.toArray⟩) (.slice m1 m2 m3) (.slice n1 n2 n3) (.slice o1 o2 o3))
      have hk12 := st11_kept (w := w11) (b := a) (.int .i64 fk) (.int .i64 fi) (.int .i64 fC) (.string ⟨fT.toArray⟩) (.int .i64 fB.k) (.int .i64 fB.i) (.int .u64 fB.b) (.string ⟨fB.t.toArray⟩) (.slice m1 m2 m3) (.slice n1 n2 n3) (.slice o1 o2 o3)
      have ha12 := st11_blk HA11.out (.int .i64 fk) (.int .i64 fi) (.int .i64 fC) (.string ⟨fT.toArray⟩) (.int .i64 fB.k) (.int .i64 fB.i) (.int .u64 fB.b) (.string ⟨fB.t.toArray⟩) (.slice m1 m2 m3) (.slice n1 n2 n3) (.slice o1 o2 o3)
      generalize st11 w11 a (.int .i64 fk) (.int .i64 fi) (.int .i64 fC) (.string ⟨fT.toArray⟩) (.int .i64 fB.k) (.int .i64 fB.i) (.int .u64 fB.b) (.string ⟨fB.t.toArray⟩) (.slice m1 m2 m3) (.slice n1 n2 n3) (.slice o1 o2 o3) = w12 at *
      have ha10 : a < w10.heap.size := HAr.out.1
      have hq10 : q < w10.heap.size := HQr.out.1
      have hB12 : Below w4.heap.size w4 w12 := (bel_tr HB10.out HB11.out).trans (hk12.below (by have := (bel_tr HB10.out HB11.out).size; omega) (fun x hx e => by have := HAL.out.2; unfold N1 at e; omega))
      have hE12 : ErAt (fun y => w10.heap.size ≤ y) w12 ⟨fk, fi, fC, fT, fB, fcs, fL⟩ m1 m2 m3 n1 n2 n3 o1 o2 o3 := HE11.out.same (fun x hx hl => hk12.block x hl (fun e => by have h9 : w10.heap.size ≤ x := hx; unfold N1 at e; omega)) (fun x hx _ => hx)
      have hC12 : Row w10.heap.size w12 1 n1 n2 n3 (I8 fcs) := HC11.out.keep hk12 (fun x hx e => by have := (HC11.out.lt x hx).1; unfold N1 at e; omega)
      have HB12 := Lib.hid hB12
      have HQ12 := Lib.hid (HQ11.out.keep hk12 (fun e => by have := HAQ.out.1; unfold N1 at e; omega))
      have HA12 := Lib.hid ha12
      have HE12 := Lib.hid (And.intro hE12 hC12)
      have HS10 := Lib.hid (And.intro ha10 (And.intro hq10 (show w10.heap.size ≤ w12.heap.size from Nat.le_trans HB11.out.size hk12.size)))
      have HP12 := Lib.hid (HKEY.out w12 hB12).1
      clear hk12 ha12 hB12 hE12 hC12 ha10 hq10 HA11 HQ11 HE11 HC11 HAr HQr HO10 x0 x1 x2 x3 x4 x5 x6 x7 x8 x9 x10 f0 f1 f2 f3 f4 f5 f6 f7 f8 f9 f10 a0 a1 a2 a3 a4 a5 a6 a7 a8 a9 a10
      have x0 := HP12.out.cell 0 rfl
      have x1 := HP12.out.cell 1 rfl
      have x2 := HP12.out.cell 2 rfl
      have x3 := HP12.out.cell 3 rfl
      have x4 := HP12.out.cell 4 rfl
      have x5 := HP12.out.cell 5 rfl
      have x6 := HP12.out.cell 6 rfl
      have x7 := HP12.out.cell 7 rfl
      have x8 := HP12.out.cell 8 rfl
      have x9 := HP12.out.cell 9 rfl
      have x10 := HP12.out.cell 10 rfl
      go_upto_region 15 with (go_at_call 36; (with_reducible refine (HC36.out _ HB12.out).mono ?_); intro r7 w13 h7; obtain ⟨d1, d2, d3, e1, e2, e3, g1, g2, g3, us, rfl, hF7, hC7, ⟨hR7, hT7⟩, hB7⟩ := CLT.ahead h7; unfold vE; have HB13 := Lib.hid hB7; have HE13 := Lib.hid (show ErAt (fun y => w12.heap.size ≤ y) w13 ⟨fk, fi, fC, fT, fB, fcs, fL⟩ d1 d2 d3 e1 e2 e3 g1 g2 g3 from ⟨hF7, ⟨hC7.rd, fun x _ hx => (hC7.lt x hx).1⟩, us, ⟨hR7.rd, fun x _ hx => (hR7.lt x hx).1⟩, EAt.same _ hT7 (fun _ _ _ => rfl) (fun x hx _ => hx.1)⟩); have HA13 := Lib.hid (HA12.out.below hB7); have HQ13 := Lib.hid (HQ12.out.below hB7); have a0 := HQ13.out.cell 0 rfl; have f0 := HQ13.out.free 0 (by simp [V11]); have a1 := HQ13.out.cell 1 rfl; have f1 := HQ13.out.free 1 (by simp [V11]); have a2 := HQ13.out.cell 2 rfl; have f2 := HQ13.out.free 2 (by simp [V11]); have a3 := HQ13.out.cell 3 rfl; have f3 := HQ13.out.free 3 (by simp [V11]); have a4 := HQ13.out.cell 4 rfl; have f4 := HQ13.out.free 4 (by simp [V11]); have a5 := HQ13.out.cell 5 rfl; have f5 := HQ13.out.free 5 (by simp [V11]); have a6 := HQ13.out.cell 6 rfl; have f6 := HQ13.out.free 6 (by simp [V11]); have a7 := HQ13.out.cell 7 rfl; have f7 := HQ13.out.free 7 (by simp [V11]); have a8 := HQ13.out.cell 8 rfl; have f8 := HQ13.out.free 8 (by simp [V11]); have a9 := HQ13.out.cell 9 rfl; have f9 := HQ13.out.free 9 (by simp [V11]); have a10 := HQ13.out.cell 10 rfl; have f10 := HQ13.out.free 10 (by simp [V11]); clear h7 hF7 hC7 hR7 hT7 hB7)
      change Code.wp _ _ _ _ (st11 w13 q (.int .i64 fk) (.int .i64 fi) (.int .i64 fC) (.string ⟨fT.toArray⟩) (.int .i64 fB.k) (.int .i64 fB.i) (.int .u64 fB.b) (.string ⟨fB.t.toArray⟩) (.slice d1 d2 d3) (.slice e1 e2 e3) (.slice g1 g2 g3))
      have hk14 := st11_kept (w := w13) (b := q) (.int .i64 fk) (.int .i64 fi) (.int .i64 fC) (.string ⟨fT.toArray⟩) (.int .i64 fB.k) (.int .i64 fB.i) (.int .u64 fB.b) (.string ⟨fB.t.toArray⟩) (.slice d1 d2 d3) (.slice e1 e2 e3) (.slice g1 g2 g3)
      have hq14 := st11_blk HQ13.out (.int .i64 fk) (.int .i64 fi) (.int .i64 fC) (.string ⟨fT.toArray⟩) (.int .i64 fB.k) (.int .i64 fB.i) (.int .u64 fB.b) (.string ⟨fB.t.toArray⟩) (.slice d1 d2 d3) (.slice e1 e2 e3) (.slice g1 g2 g3)
      generalize st11 w13 q (.int .i64 fk) (.int .i64 fi) (.int .i64 fC) (.string ⟨fT.toArray⟩) (.int .i64 fB.k) (.int .i64 fB.i) (.int .u64 fB.b) (.string ⟨fB.t.toArray⟩) (.slice d1 d2 d3) (.slice e1 e2 e3) (.slice g1 g2 g3) = w14 at *
      obtain ⟨ha10, hq10, hs12⟩ := HS10.out
      have hB14 : Below w4.heap.size w4 w14 := (bel_tr HB12.out HB13.out).trans (hk14.below (by have := (bel_tr HB12.out HB13.out).size; omega) (fun x hx e => by have := HAL.out.2; have := HAQ.out.1; unfold N1 at e; omega))
      have hE14 : ErAt (fun y => y < w14.heap.size) w14 ⟨fk, fi, fC, fT, fB, fcs, fL⟩ m1 m2 m3 n1 n2 n3 o1 o2 o3 := ((HE12.out.1.same (w' := w13) (fun x _ hl => HB13.out.block x hl) (fun x hx _ => hx)).same (w' := w14) (fun x hx hl => hk14.block x hl (fun e => by have h9 : w10.heap.size ≤ x := hx; unfold N1 at e; omega)) (fun x hx _ => hx)).lt
      have hE15 : ErAt (fun y => y < w14.heap.size) w14 ⟨fk, fi, fC, fT, fB, fcs, fL⟩ d1 d2 d3 e1 e2 e3 g1 g2 g3 := (HE13.out.same (w' := w14) (fun x hx hl => hk14.block x hl (fun e => by have h9 : w12.heap.size ≤ x := hx; unfold N1 at e; omega)) (fun x hx _ => hx)).lt
      have hC14 : Row w10.heap.size w14 1 n1 n2 n3 (I8 fcs) := (HE12.out.2.below HB13.out).keep hk14 (fun x hx e => by have := ((HE12.out.2.below HB13.out).lt x hx).1; unfold N1 at e; omega)
      have HA14 := Lib.hid (HA13.out.keep hk14 (fun e => by have := HAQ.out.1; unfold N1 at e; omega))
      have HQ14 := Lib.hid hq14
      have HB14 := Lib.hid hB14
      have HSF := Lib.hid (HS15.out ⟨fk, fi, fC, fT, fB, fcs, fL⟩ w14 _ _ _ _ _ _ _ _ _ _ _ _ _ _ _ _ _ _ hE14 hE15)
      have HC14 := Lib.hid hC14
      have HLN := Lib.hid (show ∀ x, blockOf n1 = some x → w4.heap.size ≤ x ∧ x ≠ a from fun x hx => by have h1 := hC14.lt x hx; have := HAL.out.2; omega)
      clear hk14 hq14 hB14 hE14 hE15 hC14 HA13 HQ13 HE13 HE12 HA12 HQ12 HP12 x0 x1 x2 x3 x4 x5 x6 x7 x8 x9 x10 f0 f1 f2 f3 f4 f5 f6 f7 f8 f9 f10 a0 a1 a2 a3 a4 a5 a6 a7 a8 a9 a10 ha10 hq10 hs12
      dsimp only at HSF
      unfold vE at HSF
      have x0 := HA14.out.cell 0 rfl
      have x1 := HA14.out.cell 1 rfl
      have x2 := HA14.out.cell 2 rfl
      have x3 := HA14.out.cell 3 rfl
      have x4 := HA14.out.cell 4 rfl
      have x5 := HA14.out.cell 5 rfl
      have x6 := HA14.out.cell 6 rfl
      have x7 := HA14.out.cell 7 rfl
      have x8 := HA14.out.cell 8 rfl
      have x9 := HA14.out.cell 9 rfl
      have x10 := HA14.out.cell 10 rfl
      have y0 := HQ14.out.cell 0 rfl
      have y1 := HQ14.out.cell 1 rfl
      have y2 := HQ14.out.cell 2 rfl
      have y3 := HQ14.out.cell 3 rfl
      have y4 := HQ14.out.cell 4 rfl
      have y5 := HQ14.out.cell 5 rfl
      have y6 := HQ14.out.cell 6 rfl
      have y7 := HQ14.out.cell 7 rfl
      have y8 := HQ14.out.cell 8 rfl
      have y9 := HQ14.out.cell 9 rfl
      have y10 := HQ14.out.cell 10 rfl
      have hff : (fF != fF) = false := by cases fF <;> rfl
      go_upto_block 2 with (go_at_call 15; (with_reducible refine HSF.out.mono ?_); rintro r9 w15 ⟨rfl, hB⟩; have HB15 := Lib.hid (bel_tr HB14.out hB); have HA15 := Lib.hid (HA14.out.below hB); have HC15r := Lib.hid (HC14.out.below hB); replace x0 := cellAt hB x0; replace x1 := cellAt hB x1; replace x2 := cellAt hB x2; replace x3 := cellAt hB x3; replace x4 := cellAt hB x4; replace x5 := cellAt hB x5; replace x6 := cellAt hB x6; replace x7 := cellAt hB x7; replace x8 := cellAt hB x8; replace x9 := cellAt hB x9; replace x10 := cellAt hB x10; replace y0 := cellAt hB y0; replace y1 := cellAt hB y1; replace y2 := cellAt hB y2; replace y3 := cellAt hB y3; replace y4 := cellAt hB y4; replace y5 := cellAt hB y5; replace y6 := cellAt hB y6; replace y7 := cellAt hB y7; replace y8 := cellAt hB y8; replace y9 := cellAt hB y9; replace y10 := cellAt hB y10; clear hB)
      have H0 := Lib.hid (show OwR 1 w10.heap.size n1 n2 n3 w15 (.int .i64 0) w15 from ⟨0, _, rfl, Nat.zero_le _, HC15r.out, Kept.refl _ _⟩)
      clear HSF x0 x1 x2 x3 x4 x5 x6 x7 x8 x9 x10 y0 y1 y2 y3 y4 y5 y6 y7 y8 y9 y10 HA14 HQ14 HC14 HC15r hff HC35 HC36 HS15
      go_wp2_with fail
      go_loopw [77] (fun t77 wr => OwR 1 w10.heap.size n1 n2 n3 w15 t77 wr) (fun t77 _ => n2 - (intOf t77).toNat)
      case atStart => exact H0.out
      case round =>
        obtain ⟨j, cs9, rfl, hj, hR, hK⟩ := hrel
        have HAr := Lib.hid (HA15.out.keep hK (fun h => (HLN.out a h).2 rfl))
        have HR := Lib.hid hR
        have HK := Lib.hid hK
        clear H0 hR hK
        have z9 := HAr.out.cell 9 rfl
        by_cases hjn : (j : Int) < (n2 : Int)
        · obtain ⟨bb, off, rfl⟩ : ∃ bb off, n1 = some ⟨bb, off, none⟩ := by
            rcases HR.out.2.2.2 with ⟨_, h⟩ | ⟨b, o, h, _⟩
            · have := HR.out.2.1
              omega
            · exact ⟨b, o, h⟩
          have hj9 : j < n2 := by omega
          have hjm : j ≤ 9223372036854775806 := by have := HR.out.2.1; have h := HR.out.2.2.1; unfold maxLen at h; omega
          obtain ⟨v0, a0, g0⟩ : ∃ v, wr.cell? ⟨bb, off + j, none⟩ = some v ∧ wr.frozen? ⟨bb, off + j, none⟩ = false := by
            obtain ⟨h1, h2, _, h4⟩ := HR.out
            rcases h4 with ⟨h4, _⟩ | ⟨b, o, e, _, _, _, hs⟩
            · cases h4
            · cases e
              obtain ⟨v, hv⟩ := Option.isSome_iff_exists.1 (hs j (by omega)).1
              exact ⟨v, hv, (hs j (by omega)).2⟩
          have HR2 := Lib.hid (show Row w10.heap.size (wr.setCell ⟨bb, off + j, none⟩ (.int .i64 77)) 1 (some ⟨bb, off, none⟩) n2 n3 (cs9.set j (.int .i64 77)) ∧ Kept (fun x => blockOf (some ⟨bb, off, none⟩) = some x) w15 (wr.setCell ⟨bb, off + j, none⟩ (.int .i64 77)) from ⟨HR.out.set rfl (j := j) (.int .i64 77), HK.out.put (p := ⟨bb, off + j, none⟩) (.int .i64 77) (fun _ => rfl)⟩)
          go_wp2_with fail
          go_roundw
          case rel => exact ⟨j + 1, _, by go_num, hj9, HR2.out.1, HR2.out.2⟩
          case measure => simp [intOf]; omega
        · have hBR : Below w4.heap.size w4 wr := HB15.out.trans (HK.out.below (by have := HB15.out.size; omega) (fun x hx h => by have := (HLN.out x h).1; omega))
          obtain ⟨w16, rfl⟩ : ∃ x, x = wr := ⟨_, rfl⟩
          have HO16 := Lib.hid (HKEY.out w16 hBR).2.1
          have HP16 := Lib.hid (HKEY.out w16 hBR).1
          have HB16 := Lib.hid hBR
          clear HR HK hBR z9 HLN HA15 HAr
          have x0 := HO16.out.cell 0 rfl
          have x1 := HO16.out.cell 1 rfl
          have x2 := HO16.out.cell 2 rfl
          have x3 := HO16.out.cell 3 rfl
          have x4 := HO16.out.cell 4 rfl
          have x5 := HO16.out.cell 5 rfl
          have x6 := HO16.out.cell 6 rfl
          have x7 := HO16.out.cell 7 rfl
          have x8 := HO16.out.cell 8 rfl
          have x9 := HO16.out.cell 9 rfl
          have x10 := HO16.out.cell 10 rfl
          have y0 := HP16.out.cell 0 rfl
          have y1 := HP16.out.cell 1 rfl
          have y2 := HP16.out.cell 2 rfl
          have y3 := HP16.out.cell 3 rfl
          have y4 := HP16.out.cell 4 rfl
          have y5 := HP16.out.cell 5 rfl
          have y6 := HP16.out.cell 6 rfl
          have y7 := HP16.out.cell 7 rfl
          have y8 := HP16.out.cell 8 rfl
          have y9 := HP16.out.cell 9 rfl
          have y10 := HP16.out.cell 10 rfl
          go_wp2_with (first
            | (go_at_call 15; (with_reducible refine (HC15.out _ HB16.out).mono ?_); rintro r9 w17 ⟨rfl, hB⟩; have HB17 := Lib.hid (bel_tr HB16.out hB); replace x0 := cellAt hB x0; replace x1 := cellAt hB x1; replace x2 := cellAt hB x2; replace x3 := cellAt hB x3; replace x4 := cellAt hB x4; replace x5 := cellAt hB x5; replace x6 := cellAt hB x6; replace x7 := cellAt hB x7; replace x8 := cellAt hB x8; replace x9 := cellAt hB x9; replace x10 := cellAt hB x10; replace y0 := cellAt hB y0; replace y1 := cellAt hB y1; replace y2 := cellAt hB y2; replace y3 := cellAt hB y3; replace y4 := cellAt hB y4; replace y5 := cellAt hB y5; replace y6 := cellAt hB y6; replace y7 := cellAt hB y7; replace y8 := cellAt hB y8; replace y9 := cellAt hB y9; replace y10 := cellAt hB y10; clear hB)
            | (go_at_call 11; (with_reducible refine (HW.out _).mono ?_); rintro r9 w18 ⟨rfl, hB⟩; have HB18 := Lib.hid (bel_tr HB17.out hB); clear hB))
          go_ret
          exact ⟨rfl, HB4.out.trans (HB18.out.mono HB4.out.size)⟩
end Go.Proofs.YtbldidiibkcelaaGreatDoor

