/-
  ErrsTells (walk): the law. Not a statement of the seat.
-/
import Derived.Test.YtbldidiibkcelaaGreatDoorTEAs6
import Derived.Test.YtbldidiibkcelaaGreatDoorTEWalk29
import Derived.Test.YtbldidiibkcelaaGreatDoorTETxR
import Derived.Test.YtbldidiibkcelaaGreatDoorTEResl
namespace Go.Proofs.YtbldidiibkcelaaGreatDoor
open Go.RowKit

def Lb6 (w : World) : Prop := Lib.TabIs Tryz.prog w "internal/strconv.uint64pow10" .u64 Lib.pow10Tab ∧ w.cell? ⟨5, 15, none⟩ = some (.int .u8 4)
theorem Lb6.lb {w w' : World} (h : Lb6 w) (hs : 7 ≤ w'.heap.size) (hb : ∀ b, b < 6 → w'.heap[b]? = w.heap[b]?) : Lb w' := by
  obtain ⟨h2, h5⟩ := h
  refine ⟨hs, ?_, (World.cell?_of_block (a := ⟨5, 15, none⟩) (hb 5 (by omega))).trans h5⟩
  have hg : Tryz.prog.globalNamed "internal/strconv.uint64pow10" = some 3 := by kernel_rfl
  unfold Lib.TabIs World.var? at h2 ⊢
  rw [hg] at h2 ⊢
  simp only [Option.bind_some] at h2 ⊢
  rw [hb 3 (by omega)]
  exact h2
theorem bel_al2 {w wx : World} {ob : Obj} (h : Below w.heap.size w wx) : Below w.heap.size w (wx.alloc ob) := h.trans (((Below.refl wx.heap.size wx).alloc (Nat.le_refl _) _).mono h.size)
section
variable {P : Program} {md : Region.Mode} {l : List Oper} {Q : Exit → Act → World → Prop} {S : World → Prop}
def StepL (P : Program) (md : Region.Mode) (l : List Oper) (Q : Exit → Act → World → Prop) (S : World → Prop) (fuel : Nat) (listed : Array Bool) (a : Act) (w : World) (i : Nat) (o : Oper) : Prop :=
  ∀ K' : Act → World → Prop, Shut (∀ a w, S w → (S w → wpAnyL P md l.toArray Q S fuel (listed.setIfInBounds i true) a w) → K' a w) → if Region.wanted o (yielded l.toArray a.tmps) = true then Oper.wp P o a w K' Q else K' (a.put o.dst undef) w
/-- many may come up -/
theorem manyL {fuel : Nat} {listed : Array Bool} {a : Act} {w : World} {rs : List Nat} (hr : Region.ready md l.toArray listed = rs) (hne : rs ≠ [])
    (h : ∀ i ∈ rs, ∃ o, nthO l i = some o ∧ StepL P md l Q S fuel listed a w i o) : wpAnyL P md l.toArray Q S (fuel + 1) listed a w := by
  refine ⟨fun h0 => (hne (hr.symm.trans h0)).elim, fun j hj => ?_⟩
  rw [hr] at hj
  obtain ⟨o, ho, hs⟩ := h j hj
  exact wpOp_step ((nthO_at l j).trans ho) (fun K' hK => hs K' (fun a w hS hW => hK a w ⟨.inr hS, hW hS⟩))
theorem two_of {fuel : Nat} {listed : Array Bool} {a : Act} {w : World} {i j : Nat} {o1 o2 : Oper} (h1 : nthO l i = some o1) (h2 : nthO l j = some o2) (s1 : StepL P md l Q S fuel listed a w i o1) (s2 : StepL P md l Q S fuel listed a w j o2) :
    ∀ x ∈ [i, j], ∃ o, nthO l x = some o ∧ StepL P md l Q S fuel listed a w x o := by
  intro x hx
  simp only [List.mem_cons, List.not_mem_nil, or_false] at hx
  rcases hx with rfl | rfl
  · exact ⟨_, h1, s1⟩
  · exact ⟨_, h2, s2⟩
theorem three_of {fuel : Nat} {listed : Array Bool} {a : Act} {w : World} {i j k : Nat} {o1 o2 o3 : Oper} (h1 : nthO l i = some o1) (h2 : nthO l j = some o2) (h3 : nthO l k = some o3) (s1 : StepL P md l Q S fuel listed a w i o1) (s2 : StepL P md l Q S fuel listed a w j o2) (s3 : StepL P md l Q S fuel listed a w k o3) :
    ∀ x ∈ [i, j, k], ∃ o, nthO l x = some o ∧ StepL P md l Q S fuel listed a w x o := by
  intro x hx
  simp only [List.mem_cons, List.not_mem_nil, or_false] at hx
  rcases hx with rfl | rfl | rfl
  · exact ⟨_, h1, s1⟩
  · exact ⟨_, h2, s2⟩
  · exact ⟨_, h3, s3⟩
end
def TlRel (n : Nat) (w9 : World) (t57 : Value) (wr : World) : Prop := ∃ j : Nat, t57 = .int .i64 (j : Nat) ∧ j ≤ n ∧ Below w9.heap.size w9 wr
set_option maxRecDepth 100000 in
set_option maxHeartbeats 32000000 in
theorem errsTellsT {S : Nat → Prop} {e : Et} {bl : Option Addr} {bn bc : Nat} {cl : Option Addr} {cn cc : Nat} {l : Option Addr} {n cap : Nat} {w : World}
    (hE : ErAt S w e bl bn bc cl cn cc l n cap) (hS : ∀ x, S x → x < w.heap.size) (hcs : e.cs.length ≤ 140737488355328) (hks : e.l.small) (hrg : erng1 e) (hg : w.cell? ⟨1, 0, none⟩ = some (rty 68)) (hL : Lb6 w) :
    Calls Tryz.prog 7 #[vE e.k e.i e.c e.t e.b bl bn bc cl cn cc l n cap] w (fun r w' => r = .returned (.bool true) ∧ Below w.heap.size w w') := by
  have hEx : ∀ wx, Below w.heap.size w wx → ErAt S wx e bl bn bc cl cn cc l n cap := fun wx hx => hE.same (fun x _ hlt => hx.block x hlt) (fun x hx _ => hx)
  have hSx : ∀ wx, Below w.heap.size w wx → ∀ x, S x → x < wx.heap.size := fun wx hx x hx' => Nat.lt_of_lt_of_le (hS x hx') hx.size
  have hlt := World.block_lt_of_cell? _ _ hg
  have HGX := Lib.hid (show ∀ wx, Below w.heap.size w wx → 7 ≤ wx.heap.size → wx.cell? ⟨1, 0, none⟩ = some (rty 68) ∧ Lb wx from fun wx hx h7 => ⟨(World.cell?_of_block (a := ⟨1, 0, none⟩) (hx.block 1 hlt)).trans hg, hL.lb h7 (fun b hb => hx.block b (by have := World.block_lt_of_cell? _ _ hL.2; dsimp only at this; omega))⟩)
  have hp6 : 6 ≤ w.heap.size := World.block_lt_of_cell? _ _ hL.2
  have HV1 := Lib.hid (fun (wx : World) (hx : Below w.heap.size w wx) => show Calls Tryz.prog 10 #[vE e.k e.i e.c e.t e.b bl bn bc cl cn cc l n cap] wx (fun r w' => r = .returned (.bool (ervalidM e)) ∧ Below wx.heap.size wx w') from ervalidN (hEx wx hx) (hSx wx hx) hcs hks)
  have HW := Lib.hid (fun (wx : World) => awakeT wx)
  have hA := ebox_blk w e.k e.i e.c e.t e.b bl bn bc cl cn cc l n cap
  have hB := ebox_below w e.k e.i e.c e.t e.b bl bn bc cl cn cc l n cap
  have hok := (ervalid_ok e).1
  unfold vE at HV1 ⊢
  go_enter Tryz.func7, Tryz.ntmps7
  go_upto_region 1 with (fail)
  change Code.wp _ _ _ _ (ebox w e.k e.i e.c e.t e.b bl bn bc cl cn cc l n cap)
  generalize ebox w e.k e.i e.c e.t e.b bl bn bc cl cn cc l n cap = w1 at *
  obtain ⟨p, hp⟩ : ∃ x, x = w.heap.size := ⟨_, rfl⟩
  rw [← hp] at hA
  rw [← hp]
  have x0 := hA.cell 0 rfl
  have x1 := hA.cell 1 rfl
  have x2 := hA.cell 2 rfl
  have x3 := hA.cell 3 rfl
  have x4 := hA.cell 4 rfl
  have x5 := hA.cell 5 rfl
  have x6 := hA.cell 6 rfl
  have x7 := hA.cell 7 rfl
  have x8 := hA.cell 8 rfl
  have x9 := hA.cell 9 rfl
  have x10 := hA.cell 10 rfl
  have HB := Lib.hid hB
  have HA := Lib.hid hA
  generalize ervalidM e = v1 at *
  have HP6 := Lib.hid (show 6 ≤ p from by rw [hp]; exact hp6)
  clear hA hB hp hlt hg hp6
  cases v1
  · go_wp2_with (first
      | (go_at_call 10; (with_reducible refine (HV1.out _ HB.out).mono ?_); rintro r2 w2 ⟨rfl, hB⟩; have HB2 := Lib.hid (bel_tr HB.out hB); clear hB)
      | (go_at_call 11; (with_reducible refine (HW.out _).mono ?_); rintro r3 w3 ⟨rfl, hB⟩; have HB3 := Lib.hid (bel_tr HB2.out hB); clear hB))
    go_ret
    exact ⟨rfl, HB3.out⟩
  have hokE := hok rfl
  clear hok
  obtain ⟨k, i, c, t, b, cs, kids⟩ := e
  have hRt : rightE ⟨k, i, c, t, b, cs, kids⟩ = true := hokE.2.2.1
  have hOS := hokE.okS
  have hz1 : 1 + esz kids ≤ 4096 := hokE.1
  have hd16 : ehi kids ≤ 16 := by have := hokE.2.1; dsimp only at this; omega
  have hTW : TW1 ⟨k, i, c, t, b, cs, kids⟩ ≤ 140737488355328 := Nat.le_trans (TW1_le hRt hOS) (by dsimp only; omega)
  have HCP := Lib.hid (fun (wx : World) (hx : Below w.heap.size w wx) => ecopyG kids k i c t b cs bl bn bc cl cn cc l n cap S wx (hEx wx hx) (hSx wx hx) hOS.1 hOS.2.1 hOS.2.2.1 hOS.2.2.2)
  have HEX := Lib.hid (And.intro hEx hSx)
  have HRO := Lib.hid (And.intro hRt (And.intro hOS (And.intro hrg (And.intro hTW (And.intro hz1 hd16)))))
  unfold vE at HCP
  clear hEx hSx hE hS hokE hRt hOS hcs hks hL hrg hTW hz1 hd16
  go_upto_region 4 with (first
    | (go_at_call 10; (with_reducible refine (HV1.out _ HB.out).mono ?_); rintro r2 w2 ⟨rfl, hB⟩; have HB2 := Lib.hid (bel_tr HB.out hB); have HA2 := Lib.hid (HA.out.below hB); replace x0 := cellAt hB x0; replace x1 := cellAt hB x1; replace x2 := cellAt hB x2; replace x3 := cellAt hB x3; replace x4 := cellAt hB x4; replace x5 := cellAt hB x5; replace x6 := cellAt hB x6; replace x7 := cellAt hB x7; replace x8 := cellAt hB x8; replace x9 := cellAt hB x9; replace x10 := cellAt hB x10; clear hB)
    | (go_at_call 25; (with_reducible refine (HCP.out _ HB2.out).mono ?_); intro r3 w3 h3; obtain ⟨blo, bno, bco, clo, cno, cco, lo, no, co, rfl, hE3, hB⟩ := CLE.er h3; clear h3; unfold vE; have HE3 := Lib.hid hE3.lt; have HB3 := Lib.hid (bel_tr HB2.out hB); have HA3 := Lib.hid (HA2.out.below hB); clear hB hE3))
  change Code.wp _ _ _ _ (ebox w3 k i c t b blo bno bco clo cno cco lo no co)
  have hO := ebox_blk w3 k i c t b blo bno bco clo cno cco lo no co
  have hB4 := ebox_below w3 k i c t b blo bno bco clo cno cco lo no co
  generalize ebox w3 k i c t b blo bno bco clo cno cco lo no co = w4 at *
  obtain ⟨o, ho⟩ : ∃ x, x = w3.heap.size := ⟨_, rfl⟩
  rw [← ho] at hO
  rw [← ho]
  have HB4 := Lib.hid (bel_tr HB3.out hB4)
  have hP4 := HA3.out.below hB4
  -- all later worlds
  have HKEY := Lib.hid (show ∀ wx, Below w4.heap.size w4 wx → Blk wx p (V11 k i c t b bl bn bc cl cn cc l n cap) ∧ Blk wx o (V11 k i c t b blo bno bco clo cno cco lo no co) ∧ ErAt (fun x => x < wx.heap.size) wx ⟨k, i, c, t, b, cs, kids⟩ bl bn bc cl cn cc l n cap ∧ ErAt (fun x => x < wx.heap.size) wx ⟨k, i, c, t, b, cs, kids⟩ blo bno bco clo cno cco lo no co ∧ wx.cell? ⟨1, 0, none⟩ = some (rty 68) ∧ Lb wx from
    fun wx hx => ⟨hP4.below hx, hO.below hx, (HEX.out.1 wx (HB4.out.trans (hx.mono HB4.out.size))).lt, (HE3.out.same (w' := wx) (fun x _ hlt => (bel_tr hB4 hx).block x hlt) (fun x hx' _ => hx')).lt, HGX.out wx (HB4.out.trans (hx.mono HB4.out.size)) (by have h1 := (hP4.below hx).1; have h2 := HP6.out; omega)⟩)
  clear hO hB4 ho hP4 HV1 HCP HA HA2 HA3 HE3 HEX HGX x0 x1 x2 x3 x4 x5 x6 x7 x8 x9 x10
  have HC26 := Lib.hid (fun (wx : World) (hx : Below w4.heap.size w4 wx) => text26 (HKEY.out wx hx).2.2.2.1 (fun _ h => h) (HKEY.out wx hx).2.2.2.2.2 HRO.out.1 HRO.out.2.1 HRO.out.2.2.1 HRO.out.2.2.2.1)
  have HC27 := Lib.hid (fun (wx : World) (hx : Below w4.heap.size w4 wx) => rtxG kids k i c t b cs bl bn bc cl cn cc l n cap _ wx (HKEY.out wx hx).2.2.1 (fun _ h => h) (HKEY.out wx hx).2.2.2.2.2 HRO.out.1 HRO.out.2.1 HRO.out.2.2.1 HRO.out.2.2.2.1)
  have HC24 := Lib.hid (fun (wx : World) (hx : Below w4.heap.size w4 wx) => unw24 (e := ⟨k, i, c, t, b, cs, kids⟩) (HKEY.out wx hx).2.2.2.1 (fun _ h => h) HRO.out.1 HRO.out.2.1)
  have HC28 := Lib.hid (fun (wx : World) (hx : Below w4.heap.size w4 wx) => runw28 (HKEY.out wx hx).2.2.1 (fun _ h => h) HRO.out.2.1)
  have HC29 := Lib.hid (fun (wx : World) (hx : Below w4.heap.size w4 wx) => walk29 (HKEY.out wx hx).2.2.2.1 (fun _ h => h) HRO.out.1 (by have := HRO.out.2.2.2.2.2; omega) (by have := HRO.out.2.2.2.2.1; omega))
  have HC21 := Lib.hid (fun (wx : World) (hx : Below w4.heap.size w4 wx) => rwaysG kids k i c t b cs bl bn bc cl cn cc l n cap _ wx (HKEY.out wx hx).2.2.1 (fun _ h => h) (by have := HRO.out.2.2.2.2.1; omega) (by have := HRO.out.2.2.2.2.2; omega))
  have HC30 := Lib.hid (fun (wx : World) (hx : Below w4.heap.size w4 wx) => res30 (HKEY.out wx hx).2.2.2.2.1 (HKEY.out wx hx).2.2.2.1 (fun _ h => h) HRO.out.1 HRO.out.2.1)
  have HC31 := Lib.hid (fun (wx : World) (hx : Below w4.heap.size w4 wx) => res31 (HKEY.out wx hx).2.2.1 (fun _ h => h) HRO.out.1 HRO.out.2.1)
  have HS15 := Lib.hid (fun (x : Et) (wx : World) (b1 : Option Addr) (b2 b3 : Nat) (c1 : Option Addr) (c2 c3 : Nat) (l1 : Option Addr) (l2 l3 : Nat) (d1 : Option Addr) (d2 d3 : Nat) (e1 : Option Addr) (e2 e3 : Nat) (g1 : Option Addr) (g2 g3 : Nat) (h1 : ErAt (fun y => y < wx.heap.size) wx x b1 b2 b3 c1 c2 c3 l1 l2 l3) (h2 : ErAt (fun y => y < wx.heap.size) wx x d1 d2 d3 e1 e2 e3 g1 g2 g3) =>
    (show Calls Tryz.prog 15 #[vE x.k x.i x.c x.t x.b b1 b2 b3 c1 c2 c3 l1 l2 l3, vE x.k x.i x.c x.t x.b d1 d2 d3 e1 e2 e3 g1 g2 g3] wx (fun e w' => e = .returned (.bool true) ∧ Below wx.heap.size wx w') from by
      have h := ersameG x.l x.l x.k x.i x.c x.k x.i x.c x.t x.t x.b x.b x.cs x.cs b1 b2 b3 c1 c2 c3 l1 l2 l3 d1 d2 d3 e1 e2 e3 g1 g2 g3 (fun y => y < wx.heap.size) wx h1 h2 (fun _ h => h)
      rw [esame1_refl] at h
      exact h))
  have HC15 := Lib.hid (fun (wx : World) (hx : Below w4.heap.size w4 wx) => HS15.out ⟨k, i, c, t, b, cs, kids⟩ wx _ _ _ _ _ _ _ _ _ _ _ _ _ _ _ _ _ _ (HKEY.out wx hx).2.2.2.1 (HKEY.out wx hx).2.2.1)
  unfold RTP at HC27
  unfold RSP vR at HC30 HC31
  generalize tT ⟨k, i, c, t, b, cs, kids⟩ = tt at *
  generalize unwE ⟨k, i, c, t, b, cs, kids⟩ = U at *
  generalize resM ⟨k, i, c, t, b, cs, kids⟩ = rm at *
  obtain ⟨ts, tz⟩ := tt
  obtain ⟨ra, rc⟩ := rm
  obtain ⟨uk, ui, uc, ut, ub, ucs, uL⟩ := U
  generalize ways1 k kids = WS at *
  dsimp only at HC26 HC27 HC24 HC28 HC15 HC30 HC31
  unfold S1 at HC26 HC27
  unfold vE at HC26 HC27 HC24 HC28 HC29 HC21 HC30 HC31 HC15
  clear HRO
  have HQ := Lib.hid (HKEY.out w4 (Below.refl _ _))
  have x0 := HQ.out.1.cell 0 rfl
  have x1 := HQ.out.1.cell 1 rfl
  have x2 := HQ.out.1.cell 2 rfl
  have x3 := HQ.out.1.cell 3 rfl
  have x4 := HQ.out.1.cell 4 rfl
  have x5 := HQ.out.1.cell 5 rfl
  have x6 := HQ.out.1.cell 6 rfl
  have x7 := HQ.out.1.cell 7 rfl
  have x8 := HQ.out.1.cell 8 rfl
  have x9 := HQ.out.1.cell 9 rfl
  have x10 := HQ.out.1.cell 10 rfl
  have y0 := HQ.out.2.1.cell 0 rfl
  have y1 := HQ.out.2.1.cell 1 rfl
  have y2 := HQ.out.2.1.cell 2 rfl
  have y3 := HQ.out.2.1.cell 3 rfl
  have y4 := HQ.out.2.1.cell 4 rfl
  have y5 := HQ.out.2.1.cell 5 rfl
  have y6 := HQ.out.2.1.cell 6 rfl
  have y7 := HQ.out.2.1.cell 7 rfl
  have y8 := HQ.out.2.1.cell 8 rfl
  have y9 := HQ.out.2.1.cell 9 rfl
  have y10 := HQ.out.2.1.cell 10 rfl
  have hst : ((⟨ts.toArray⟩ : ByteArray) == ⟨ts.toArray⟩) = true := by rw [ba_beq]; simp
  have hsn : ((⟨ts.toArray⟩ : ByteArray) != ⟨ts.toArray⟩) = false := by unfold bne; rw [ba_beq]; simp
  have HSW := Lib.hid (show ∀ wx, Below w4.heap.size w4 wx → (wx.cell? ⟨p, 0, none⟩ = some (.int .i64 k) ∧ wx.cell? ⟨p, 1, none⟩ = some (.int .i64 i) ∧ wx.cell? ⟨p, 2, none⟩ = some (.int .i64 c) ∧ wx.cell? ⟨p, 3, none⟩ = some (.string ⟨t.toArray⟩) ∧ wx.cell? ⟨p, 4, none⟩ = some (.int .i64 b.k) ∧ wx.cell? ⟨p, 5, none⟩ = some (.int .i64 b.i) ∧ wx.cell? ⟨p, 6, none⟩ = some (.int .u64 b.b) ∧ wx.cell? ⟨p, 7, none⟩ = some (.string ⟨b.t.toArray⟩) ∧ wx.cell? ⟨p, 8, none⟩ = some (.slice bl bn bc) ∧ wx.cell? ⟨p, 9, none⟩ = some (.slice cl cn cc) ∧ wx.cell? ⟨p, 10, none⟩ = some (.slice l n cap)) ∧ (wx.cell? ⟨o, 0, none⟩ = some (.int .i64 k) ∧ wx.cell? ⟨o, 1, none⟩ = some (.int .i64 i) ∧ wx.cell? ⟨o, 2, none⟩ = some (.int .i64 c) ∧ wx.cell? ⟨o, 3, none⟩ = some (.string ⟨t.toArray⟩) ∧ wx.cell? ⟨o, 4, none⟩ = some (.int .i64 b.k) ∧ wx.cell? ⟨o, 5, none⟩ = some (.int .i64 b.i) ∧ wx.cell? ⟨o, 6, none⟩ = some (.int .u64 b.b) ∧ wx.cell? ⟨o, 7, none⟩ = some (.string ⟨b.t.toArray⟩) ∧ wx.cell? ⟨o, 8, none⟩ = some (.slice blo bno bco) ∧ wx.cell? ⟨o, 9, none⟩ = some (.slice clo cno cco) ∧ wx.cell? ⟨o, 10, none⟩ = some (.slice lo no co)) from fun wx hx => by
    have h := HKEY.out wx hx
    exact ⟨⟨h.1.cell 0 rfl, h.1.cell 1 rfl, h.1.cell 2 rfl, h.1.cell 3 rfl, h.1.cell 4 rfl, h.1.cell 5 rfl, h.1.cell 6 rfl, h.1.cell 7 rfl, h.1.cell 8 rfl, h.1.cell 9 rfl, h.1.cell 10 rfl⟩, ⟨h.2.1.cell 0 rfl, h.2.1.cell 1 rfl, h.2.1.cell 2 rfl, h.2.1.cell 3 rfl, h.2.1.cell 4 rfl, h.2.1.cell 5 rfl, h.2.1.cell 6 rfl, h.2.1.cell 7 rfl, h.2.1.cell 8 rfl, h.2.1.cell 9 rfl, h.2.1.cell 10 rfl⟩⟩)
  go_upto_region 6 with (first
    | (go_at_call 26; (with_reducible refine (HC26.out _ (Below.refl _ _)).mono ?_); rintro r5 w5 ⟨rfl, hB⟩; have HB5 := Lib.hid hB; replace x0 := cellAt hB x0; replace x1 := cellAt hB x1; replace x2 := cellAt hB x2; replace x3 := cellAt hB x3; replace x4 := cellAt hB x4; replace x5 := cellAt hB x5; replace x6 := cellAt hB x6; replace x7 := cellAt hB x7; replace x8 := cellAt hB x8; replace x9 := cellAt hB x9; replace x10 := cellAt hB x10; replace y0 := cellAt hB y0; replace y1 := cellAt hB y1; replace y2 := cellAt hB y2; replace y3 := cellAt hB y3; replace y4 := cellAt hB y4; replace y5 := cellAt hB y5; replace y6 := cellAt hB y6; replace y7 := cellAt hB y7; replace y8 := cellAt hB y8; replace y9 := cellAt hB y9; replace y10 := cellAt hB y10; clear hB)
    | (go_at_call 27; (with_reducible refine (HC27.out _ HB5.out).mono ?_); rintro r6 w6 ⟨rfl, hB⟩; have HB6 := Lib.hid (bel_tr HB5.out hB); replace x0 := cellAt hB x0; replace x1 := cellAt hB x1; replace x2 := cellAt hB x2; replace x3 := cellAt hB x3; replace x4 := cellAt hB x4; replace x5 := cellAt hB x5; replace x6 := cellAt hB x6; replace x7 := cellAt hB x7; replace x8 := cellAt hB x8; replace x9 := cellAt hB x9; replace x10 := cellAt hB x10; replace y0 := cellAt hB y0; replace y1 := cellAt hB y1; replace y2 := cellAt hB y2; replace y3 := cellAt hB y3; replace y4 := cellAt hB y4; replace y5 := cellAt hB y5; replace y6 := cellAt hB y6; replace y7 := cellAt hB y7; replace y8 := cellAt hB y8; replace y9 := cellAt hB y9; replace y10 := cellAt hB y10; clear hB))
  clear HC26 HC27
  go_region_held3 (fun wx : World => (wx.cell? ⟨p, 0, none⟩ = some (.int .i64 k) ∧ wx.cell? ⟨p, 1, none⟩ = some (.int .i64 i) ∧ wx.cell? ⟨p, 2, none⟩ = some (.int .i64 c) ∧ wx.cell? ⟨p, 3, none⟩ = some (.string ⟨t.toArray⟩) ∧ wx.cell? ⟨p, 4, none⟩ = some (.int .i64 b.k) ∧ wx.cell? ⟨p, 5, none⟩ = some (.int .i64 b.i) ∧ wx.cell? ⟨p, 6, none⟩ = some (.int .u64 b.b) ∧ wx.cell? ⟨p, 7, none⟩ = some (.string ⟨b.t.toArray⟩) ∧ wx.cell? ⟨p, 8, none⟩ = some (.slice bl bn bc) ∧ wx.cell? ⟨p, 9, none⟩ = some (.slice cl cn cc) ∧ wx.cell? ⟨p, 10, none⟩ = some (.slice l n cap)) ∧ (wx.cell? ⟨o, 0, none⟩ = some (.int .i64 k) ∧ wx.cell? ⟨o, 1, none⟩ = some (.int .i64 i) ∧ wx.cell? ⟨o, 2, none⟩ = some (.int .i64 c) ∧ wx.cell? ⟨o, 3, none⟩ = some (.string ⟨t.toArray⟩) ∧ wx.cell? ⟨o, 4, none⟩ = some (.int .i64 b.k) ∧ wx.cell? ⟨o, 5, none⟩ = some (.int .i64 b.i) ∧ wx.cell? ⟨o, 6, none⟩ = some (.int .u64 b.b) ∧ wx.cell? ⟨o, 7, none⟩ = some (.string ⟨b.t.toArray⟩) ∧ wx.cell? ⟨o, 8, none⟩ = some (.slice blo bno bco) ∧ wx.cell? ⟨o, 9, none⟩ = some (.slice clo cno cco) ∧ wx.cell? ⟨o, 10, none⟩ = some (.slice lo no co)))
    (first | exact HSW.out _ HB8.out | exact HSW.out _ HB7.out | exact HSW.out _ (bel_dr HB6.out) | exact HSW.out _ HB9.out)
    (first
      | (go_simp; go_at_call 24; (with_reducible refine (HC24.out _ (bel_dr HB6.out)).mono ?_); intro r7 w7 h3; obtain ⟨a1, a2, a3, b1, b2, b3, d1, d2, d3, rfl, hE3, hB⟩ := CLE.er h3; clear h3; unfold vE; have HE7 := Lib.hid hE3.lt; have HB7 := Lib.hid (bel_tr (bel_dr HB6.out) hB); clear hB hE3)
      | (go_simp; go_at_call 28; (with_reducible refine (HC28.out _ HB7.out).mono ?_); intro r8 w8 h3; obtain ⟨e1, e2, e3, f1, f2, f3, g1, g2, g3, rfl, hE3, hB⟩ := CLE.er h3; clear h3; unfold vE; have HE8 := Lib.hid hE3.lt; have HE78 := Lib.hid (HE7.out.same (w' := w8) (fun x _ hlt => hB.block x hlt) (fun x hx' _ => hx')).lt; have HB8 := Lib.hid (bel_tr HB7.out hB); clear hB hE3; have HSF := Lib.hid (HS15.out ⟨uk, ui, uc, ut, ub, ucs, uL⟩ w8 _ _ _ _ _ _ _ _ _ _ _ _ _ _ _ _ _ _ HE78.out HE8.out); dsimp only at HSF; unfold vE at HSF)
      | (go_simp; go_at_call 15; (with_reducible refine HSF.out.mono ?_); rintro r9 w9 ⟨rfl, hB⟩; have HB9 := Lib.hid (bel_tr HB8.out hB); clear hB))
  go_upto_region 8 with fail
  go_region_held3 (fun wx : World => (wx.cell? ⟨p, 0, none⟩ = some (.int .i64 k) ∧ wx.cell? ⟨p, 1, none⟩ = some (.int .i64 i) ∧ wx.cell? ⟨p, 2, none⟩ = some (.int .i64 c) ∧ wx.cell? ⟨p, 3, none⟩ = some (.string ⟨t.toArray⟩) ∧ wx.cell? ⟨p, 4, none⟩ = some (.int .i64 b.k) ∧ wx.cell? ⟨p, 5, none⟩ = some (.int .i64 b.i) ∧ wx.cell? ⟨p, 6, none⟩ = some (.int .u64 b.b) ∧ wx.cell? ⟨p, 7, none⟩ = some (.string ⟨b.t.toArray⟩) ∧ wx.cell? ⟨p, 8, none⟩ = some (.slice bl bn bc) ∧ wx.cell? ⟨p, 9, none⟩ = some (.slice cl cn cc) ∧ wx.cell? ⟨p, 10, none⟩ = some (.slice l n cap)) ∧ (wx.cell? ⟨o, 0, none⟩ = some (.int .i64 k) ∧ wx.cell? ⟨o, 1, none⟩ = some (.int .i64 i) ∧ wx.cell? ⟨o, 2, none⟩ = some (.int .i64 c) ∧ wx.cell? ⟨o, 3, none⟩ = some (.string ⟨t.toArray⟩) ∧ wx.cell? ⟨o, 4, none⟩ = some (.int .i64 b.k) ∧ wx.cell? ⟨o, 5, none⟩ = some (.int .i64 b.i) ∧ wx.cell? ⟨o, 6, none⟩ = some (.int .u64 b.b) ∧ wx.cell? ⟨o, 7, none⟩ = some (.string ⟨b.t.toArray⟩) ∧ wx.cell? ⟨o, 8, none⟩ = some (.slice blo bno bco) ∧ wx.cell? ⟨o, 9, none⟩ = some (.slice clo cno cco) ∧ wx.cell? ⟨o, 10, none⟩ = some (.slice lo no co)))
    (first | exact HSW.out _ HB10.out | exact HSW.out _ (bel_dr HB9.out) | exact HSW.out _ HB11.out)
    (first
      | (go_simp; go_at_call 29; (with_reducible refine (HC29.out _ (bel_dr HB9.out)).mono ?_); intro r10 w10 h7; obtain ⟨wa, wn, wc, vs, rfl, hwn, hRW, hWS, hB⟩ := h7; have HB10 := Lib.hid (bel_tr (bel_dr HB9.out) hB); have HW10 := Lib.hid (And.intro hwn (And.intro hRW hWS)); clear hwn hRW hWS hB)
      | (go_simp; go_at_call 21; (with_reducible refine (HC21.out _ HB10.out).mono ?_); intro r11 w11 h7; obtain ⟨va, vn, vc, us, rfl, hvn, hRV, hVS, hB⟩ := h7; have HB11 := Lib.hid (bel_tr HB10.out hB); have HW11 := Lib.hid (And.intro hvn (And.intro hRV.rd (WYs.same (S' := fun _ => True) _ hVS (fun _ _ _ => rfl) (fun _ _ _ => trivial)))); have HX11 := Lib.hid (And.intro HW10.out.1 (And.intro (HW10.out.2.1.below hB) (WYs.same (S' := fun _ => True) _ HW10.out.2.2 (fun x _ hl => hB.block x hl) (fun _ _ _ => trivial)))); clear hvn hRV hVS hB))
  clear hst hsn HC24 HC28 HC29 HC21 HE7 HE8 HE78 HSF HS15 HQ HB5 HB6 HB7 HB8 HB9 HB10 HW10 x0 y0 x1 y1 x2 y2 x3 y3 x4 y4 x5 y5 x6 y6 x7 y7 x8 y8 x9 y9 x10 y10
  obtain ⟨hwn, hvn⟩ := And.intro HX11.out.1 HW11.out.1
  obtain rfl : vn = wn := hvn.trans hwn.symm
  have hwm : vn ≤ 9223372036854775807 := by have h1 := HW11.out.2.1.le; have h2 := HW11.out.2.1.max; unfold maxLen at h2; omega
  have HWN := Lib.hid (And.intro hwn hwm)
  clear hwn hvn hwm
  go_upto_block 0 with fail
  go_wp2_with fail
  go_loopw [57] (fun t57 wr => TlRel vn w11 t57 wr) (fun t57 _ => vn - (intOf t57).toNat)
  case atStart => exact ⟨0, rfl, Nat.zero_le _, Below.refl _ _⟩
  case round =>
    obtain ⟨j, rfl, hj, hBr⟩ := hrel
    have HBR := Lib.hid hBr
    by_cases hjn : j < vn
    · have hj1 : (j : Int) < (vn : Int) := by omega
      obtain ⟨pw, hpw⟩ : ∃ y, WS[j]? = some y := ⟨WS[j]'(by rw [← HWN.out.1]; exact hjn), List.getElem?_eq_getElem _⟩
      obtain ⟨wa2, wn2, wc2, hv, hRd, _⟩ := WYs.get _ HX11.out.2.2 hpw
      obtain ⟨va2, vn2, vc2, hu, hRu, _⟩ := WYs.get _ HW11.out.2.2 hpw
      obtain ⟨ab, aoff, hwa, hab, hcell⟩ := HX11.out.2.1.at1 (k := j) hjn
      obtain ⟨db, doff, hva, hdb, hdell⟩ := HW11.out.2.1.at1 (k := j) hjn
      rw [hv] at hcell
      rw [hu] at hdell
      subst hwa hva
      obtain rfl : vn2 = wn2 := by have h1 := hRd.len; have h2 := hRu.len; omega
      have hnm := HWN.out.2
      have hwm2 : vn2 ≤ 9223372036854775807 := by have h1 := hRu.le; have h2 := hRu.max; unfold maxLen at h2; omega
      have HRR := Lib.hid (And.intro hRd hRu)
      have HJ := Lib.hid (And.intro hjn hwm2)
      have HCC := Lib.hid (fun (wx : World) (hx : Below w11.heap.size w11 wx) => And.intro (cellAt hx hcell) (cellAt hx hdell))
      clear hpw hv hu hab hdb hRd hRu hj hwm2 hjn hcell hdell hBr
      go_upto_region 14 with fail
      go_region_held3 (fun wx : World => wx.cell? ⟨ab, aoff + j, none⟩ = some (.slice wa2 vn2 wc2) ∧ wx.cell? ⟨db, doff + j, none⟩ = some (.slice va2 vn2 vc2))
        (exact HCC.out _ (bel_dr HBR.out))
        (fail)
      have HBD := Lib.hid (bel_dr HBR.out)
      generalize World.drew wr = wd at *
      obtain ⟨hcell, hdell⟩ := HCC.out _ HBD.out
      go_upto_block 2 with fail
      go_wp2_with fail
      go_loopw [76] (fun t76 wx => TlRel vn2 w11 t76 wx) (fun t76 _ => vn2 - (intOf t76).toNat)
      case atStart => exact ⟨0, rfl, Nat.zero_le _, HBD.out⟩
      case round =>
        obtain ⟨m, rfl, hm, hBm⟩ := hrel
        have HBM := Lib.hid hBm
        by_cases hmn : m < vn2
        · have hm1 : (m : Int) < (vn2 : Int) := by omega
          obtain ⟨eb, eoff, hwa2, heb, hecell⟩ := HRR.out.1.at1 (k := m) hmn
          obtain ⟨fb, foff, hva2, hfb, hfcell⟩ := HRR.out.2.at1 (k := m) hmn
          obtain ⟨z, hz⟩ : ∃ z, (I8 pw)[m]? = some (.int .i64 z) := by
            have hl := HRR.out.1.len
            have hl2 : (I8 pw).length = pw.length := by unfold I8; rw [List.length_map]
            exact ⟨pw[m]'(by omega), by unfold I8; rw [List.getElem?_map, List.getElem?_eq_getElem (by omega)]; rfl⟩
          rw [hz] at hecell hfcell
          subst hwa2 hva2
          have hmm := HJ.out.2
          have HM := Lib.hid hmn
          have HKC := Lib.hid (fun (wx : World) (hx : Below w11.heap.size w11 wx) => And.intro (HCC.out wx hx) (And.intro (cellAt hx hecell) (cellAt hx hfcell)))
          clear heb hfb hz hm hmn hBm hecell hfcell hcell hdell
          go_upto_region 19 with fail
          go_region_held3 (fun wx : World => (wx.cell? ⟨ab, aoff + j, none⟩ = some (.slice (some ⟨eb, eoff, none⟩) vn2 wc2) ∧ wx.cell? ⟨db, doff + j, none⟩ = some (.slice (some ⟨fb, foff, none⟩) vn2 vc2)) ∧ wx.cell? ⟨eb, eoff + m, none⟩ = some (.int .i64 z) ∧ wx.cell? ⟨fb, foff + m, none⟩ = some (.int .i64 z))
            (exact HKC.out _ (bel_dr HBM.out))
            (fail)
          go_wp2_with fail
          go_roundw
          case rel => exact ⟨m + 1, by go_num, by have := HM.out; omega, bel_dr HBM.out⟩
          case measure => simp [intOf]; have := HM.out; omega
        · have hm1 : ¬ (m : Int) < (vn2 : Int) := by omega
          clear hm hmn hBm hcell hdell
          go_wp2_with fail
          go_roundw
          case rel => exact ⟨j + 1, by go_num, by have := HJ.out; omega, HBM.out⟩
          case measure => simp [intOf]; have := HJ.out; omega
    · have hj1 : ¬ (j : Int) < (vn : Int) := by omega
      clear hj hjn hBr
      have HB23 := Lib.hid (bel_tr HB11.out HBR.out)
      clear HX11 HW11 HWN
      go_upto_region 23 with fail
      clear hj1 HBR HB11
      refine wp_region_L (S := fun wx : World => Below w4.heap.size w4 wx) (by kernel_rfl) ?_ (fun hHeld => ?_)
      · exact bel_dr HB23.out
      have HBD := Lib.hid hHeld
      generalize World.drew wr = wd at *
      refine takeL (i := 0) 1 (v := ?va0) rfl (by kernel_rfl) (by kernel_rfl) (by kernel_rfl) (by kernel_rfl) (by kernel_rfl) (fun _ _ _ h => h) (Or.inl ⟨by rfl, ?hy0⟩) (by assumption) ?rest0
      case hy0 => (intro w9 hSw; obtain ⟨⟨x0, x1, x2, x3, x4, x5, x6, x7, x8, x9, x10⟩, ⟨y0, y1, y2, y3, y4, y5, y6, y7, y8, y9, y10⟩⟩ := HSW.out _ hSw; go_simp; try with_reducible rfl)
      try simp only [Act.put, List.setIfInBounds_toArray, List.set_cons_zero, List.set_cons_succ]
      refine takeL (i := 2) 3 (v := ?va2) rfl (by kernel_rfl) (by kernel_rfl) (by kernel_rfl) (by kernel_rfl) (by kernel_rfl) (fun _ _ _ h => h) (Or.inl ⟨by rfl, ?hy2⟩) (by assumption) ?rest2
      case hy2 => (intro w9 hSw; obtain ⟨⟨x0, x1, x2, x3, x4, x5, x6, x7, x8, x9, x10⟩, ⟨y0, y1, y2, y3, y4, y5, y6, y7, y8, y9, y10⟩⟩ := HSW.out _ hSw; go_simp; try with_reducible rfl)
      try simp only [Act.put, List.setIfInBounds_toArray, List.set_cons_zero, List.set_cons_succ]
      clear hHeld

      refine manyL (rs := [1, 4, 5]) (by kernel_rfl) (by simp) (three_of rfl rfl rfl (fun K hK => ?_) (fun K hK => ?_) (fun K hK => ?_))
      · skip
        (go_simp; go_at_call 30; (with_reducible refine (HC30.out _ HBD.out).mono ?_); rintro r1 wz1 ⟨rfl, hB⟩; have HBz1 := Lib.hid (bel_tr HBD.out hB); clear hB)
        refine hK.out _ _ HBz1.out (fun _ => ?_)
        clear hK K HBD
        try simp only [Act.put, List.setIfInBounds_toArray, List.set_cons_zero, List.set_cons_succ]
        refine manyL (rs := [3, 4, 5]) (by kernel_rfl) (by simp) (three_of rfl rfl rfl (fun K hK => ?_) (fun K hK => ?_) (fun K hK => ?_))
        · skip
          (go_simp; go_at_call 31; (with_reducible refine (HC31.out _ HBz1.out).mono ?_); rintro r2 wz2 ⟨rfl, hB⟩; have HBz2 := Lib.hid (bel_tr HBz1.out hB); clear hB)
          refine hK.out _ _ HBz2.out (fun _ => ?_)
          clear hK K HBz1
          try simp only [Act.put, List.setIfInBounds_toArray, List.set_cons_zero, List.set_cons_succ]
          refine manyL (rs := [4, 5]) (by kernel_rfl) (by simp) (two_of rfl rfl (fun K hK => ?_) (fun K hK => ?_))
          · skip
            go_simp
            refine hK.out _ _ (bel_al2 HBz2.out) (fun _ => ?_)
            clear hK K
            try simp only [Act.put, List.setIfInBounds_toArray, List.set_cons_zero, List.set_cons_succ]
            change wpAnyL _ _ _ _ _ _ _ _ (zres wz2)
            have hA := zres_blk wz2
            have hB := zres_below wz2
            generalize zres wz2 = wz3 at *
            obtain ⟨xb3, hxb3⟩ : ∃ x, x = wz2.heap.size := ⟨_, rfl⟩
            rw [← hxb3] at hA
            rw [← hxb3]
            have HBz3 := Lib.hid (bel_tr HBz2.out hB)
            have HLx := Lib.hid (show w4.heap.size ≤ xb3 from by rw [hxb3]; exact HBz2.out.size)
            have HKx3 := Lib.hid hA
            clear HBz2 hA hB hxb3
            refine oneL (i := 5) (by kernel_rfl) rfl (fun K hK => ?_)
            go_simp
            refine hK.out _ _ (bel_al2 HBz3.out) (fun _ => ?_)
            clear hK K
            try simp only [Act.put, List.setIfInBounds_toArray, List.set_cons_zero, List.set_cons_succ]
            change wpAnyL _ _ _ _ _ _ _ _ (zres wz3)
            have hA := zres_blk wz3
            have hB := zres_below wz3
            generalize zres wz3 = wz4 at *
            obtain ⟨yb4, hyb4⟩ : ∃ x, x = wz3.heap.size := ⟨_, rfl⟩
            rw [← hyb4] at hA
            rw [← hyb4]
            have HBz4 := Lib.hid (bel_tr HBz3.out hB)
            have HKx4 := Lib.hid (HKx3.out.below hB)
            have HXY := Lib.hid (show xb3 ≠ yb4 from by have := HKx3.out.1; omega)
            have HLy := Lib.hid (show w4.heap.size ≤ yb4 from by rw [hyb4]; exact HBz3.out.size)
            have HKy4 := Lib.hid hA
            clear HBz3 hA hB hyb4 HKx3
            have c0 := HKx4.out.cell 0 rfl; have f0 := HKx4.out.free 0 (by simp [Z10])
            have c1 := HKx4.out.cell 1 rfl; have f1 := HKx4.out.free 1 (by simp [Z10])
            have c2 := HKx4.out.cell 2 rfl; have f2 := HKx4.out.free 2 (by simp [Z10])
            have c3 := HKx4.out.cell 3 rfl; have f3 := HKx4.out.free 3 (by simp [Z10])
            have c4 := HKx4.out.cell 4 rfl; have f4 := HKx4.out.free 4 (by simp [Z10])
            have c5 := HKx4.out.cell 5 rfl; have f5 := HKx4.out.free 5 (by simp [Z10])
            have c6 := HKx4.out.cell 6 rfl; have f6 := HKx4.out.free 6 (by simp [Z10])
            have c7 := HKx4.out.cell 7 rfl; have f7 := HKx4.out.free 7 (by simp [Z10])
            have c8 := HKx4.out.cell 8 rfl; have f8 := HKx4.out.free 8 (by simp [Z10])
            have c9 := HKx4.out.cell 9 rfl; have f9 := HKx4.out.free 9 (by simp [Z10])
            refine oneL (i := 6) (by kernel_rfl) rfl (fun K hK => ?_)
            go_simp
            clear c0 f0 c1 f1 c2 f2 c3 f3 c4 f4 c5 f5 c6 f6 c7 f7 c8 f8 c9 f9
            have hk := st10_kept (w := wz4) (b := xb3) (.int .i64 ra) (.int .i64 rc) (.int .i64 0) (.int .i64 0) (.bool false) (.int .i64 0) (.int .i64 0) (.int .u64 0) (.string ⟨#[]⟩) (.slice none 0 0)
            have hb := st10_blk HKx4.out (.int .i64 ra) (.int .i64 rc) (.int .i64 0) (.int .i64 0) (.bool false) (.int .i64 0) (.int .i64 0) (.int .u64 0) (.string ⟨#[]⟩) (.slice none 0 0)
            have hB := ((Kept.of' (N := N1 xb3) HBz4.out).trans hk).below (Nat.le_refl _) (fun z hz e => by have := HLx.out; unfold N1 at e; omega)
            refine hK.out _ _ hB (fun _ => ?_)
            clear hK K
            try simp only [Act.put, List.setIfInBounds_toArray, List.set_cons_zero, List.set_cons_succ]
            change wpAnyL _ _ _ _ _ _ _ _ (st10 wz4 xb3 (.int .i64 ra) (.int .i64 rc) (.int .i64 0) (.int .i64 0) (.bool false) (.int .i64 0) (.int .i64 0) (.int .u64 0) (.string ⟨#[]⟩) (.slice none 0 0))
            have HYk := Lib.hid (HKy4.out.keep hk (fun e => by have := HXY.out; unfold N1 at e; omega))
            generalize st10 wz4 xb3 (.int .i64 ra) (.int .i64 rc) (.int .i64 0) (.int .i64 0) (.bool false) (.int .i64 0) (.int .i64 0) (.int .u64 0) (.string ⟨#[]⟩) (.slice none 0 0) = wS at *
            have HXk := Lib.hid hb
            have HBS := Lib.hid hB
            clear hk hb hB HKx4 HKy4 HBz4
            have c0 := HYk.out.cell 0 rfl; have f0 := HYk.out.free 0 (by simp [Z10])
            have c1 := HYk.out.cell 1 rfl; have f1 := HYk.out.free 1 (by simp [Z10])
            have c2 := HYk.out.cell 2 rfl; have f2 := HYk.out.free 2 (by simp [Z10])
            have c3 := HYk.out.cell 3 rfl; have f3 := HYk.out.free 3 (by simp [Z10])
            have c4 := HYk.out.cell 4 rfl; have f4 := HYk.out.free 4 (by simp [Z10])
            have c5 := HYk.out.cell 5 rfl; have f5 := HYk.out.free 5 (by simp [Z10])
            have c6 := HYk.out.cell 6 rfl; have f6 := HYk.out.free 6 (by simp [Z10])
            have c7 := HYk.out.cell 7 rfl; have f7 := HYk.out.free 7 (by simp [Z10])
            have c8 := HYk.out.cell 8 rfl; have f8 := HYk.out.free 8 (by simp [Z10])
            have c9 := HYk.out.cell 9 rfl; have f9 := HYk.out.free 9 (by simp [Z10])
            refine lastL (i := 7) (by kernel_rfl) rfl (by kernel_rfl) (by kernel_rfl) (fun K hK => ?_)
            go_simp
            clear c0 f0 c1 f1 c2 f2 c3 f3 c4 f4 c5 f5 c6 f6 c7 f7 c8 f8 c9 f9
            refine hK.out _ _ ?_
            clear hK K
            try simp only [Act.put, List.setIfInBounds_toArray, List.set_cons_zero, List.set_cons_succ]
            change Exit.then _ _ _ _ (st10 wS yb4 (.int .i64 ra) (.int .i64 rc) (.int .i64 0) (.int .i64 0) (.bool false) (.int .i64 0) (.int .i64 0) (.int .u64 0) (.string ⟨#[]⟩) (.slice none 0 0))
            have hk := st10_kept (w := wS) (b := yb4) (.int .i64 ra) (.int .i64 rc) (.int .i64 0) (.int .i64 0) (.bool false) (.int .i64 0) (.int .i64 0) (.int .u64 0) (.string ⟨#[]⟩) (.slice none 0 0)
            have hb := st10_blk HYk.out (.int .i64 ra) (.int .i64 rc) (.int .i64 0) (.int .i64 0) (.bool false) (.int .i64 0) (.int .i64 0) (.int .u64 0) (.string ⟨#[]⟩) (.slice none 0 0)
            have hB := ((Kept.of' (N := N1 yb4) HBS.out).trans hk).below (Nat.le_refl _) (fun z hz e => by have := HLy.out; unfold N1 at e; omega)
            have HXE := Lib.hid (HXk.out.keep hk (fun e => by have := HXY.out; unfold N1 at e; omega))
            generalize st10 wS yb4 (.int .i64 ra) (.int .i64 rc) (.int .i64 0) (.int .i64 0) (.bool false) (.int .i64 0) (.int .i64 0) (.int .u64 0) (.string ⟨#[]⟩) (.slice none 0 0) = wE at *
            have HYE := Lib.hid hb
            have HBE := Lib.hid hB
            clear hk hb hB HBS HXk HYk
            obtain ⟨⟨x0, x1, x2, x3, x4, x5, x6, x7, x8, x9, x10⟩, ⟨y0, y1, y2, y3, y4, y5, y6, y7, y8, y9, y10⟩⟩ := HSW.out _ HBE.out
            have c0 := HXE.out.cell 0 rfl; have d0 := HYE.out.cell 0 rfl
            have c1 := HXE.out.cell 1 rfl; have d1 := HYE.out.cell 1 rfl
            have c2 := HXE.out.cell 2 rfl; have d2 := HYE.out.cell 2 rfl
            have c3 := HXE.out.cell 3 rfl; have d3 := HYE.out.cell 3 rfl
            have c4 := HXE.out.cell 4 rfl; have d4 := HYE.out.cell 4 rfl
            have c5 := HXE.out.cell 5 rfl; have d5 := HYE.out.cell 5 rfl
            have c6 := HXE.out.cell 6 rfl; have d6 := HYE.out.cell 6 rfl
            have c7 := HXE.out.cell 7 rfl; have d7 := HYE.out.cell 7 rfl
            have c8 := HXE.out.cell 8 rfl; have d8 := HYE.out.cell 8 rfl
            have c9 := HXE.out.cell 9 rfl; have d9 := HYE.out.cell 9 rfl
            go_wp2_with (first
              | (go_at_call 15; (with_reducible refine (HC15.out _ HBE.out).mono ?_); rintro r9 w17 ⟨rfl, hB⟩; have HB17 := Lib.hid (bel_tr HBE.out hB); clear hB)
              | (go_at_call 11; (with_reducible refine (HW.out _).mono ?_); rintro r9 w18 ⟨rfl, hB⟩; have HB18 := Lib.hid (bel_tr HB17.out hB); clear hB))
            go_ret
            exact ⟨rfl, HB4.out.trans (HB18.out.mono HB4.out.size)⟩
          · skip
            go_simp
            refine hK.out _ _ (bel_al2 HBz2.out) (fun _ => ?_)
            clear hK K
            try simp only [Act.put, List.setIfInBounds_toArray, List.set_cons_zero, List.set_cons_succ]
            change wpAnyL _ _ _ _ _ _ _ _ (zres wz2)
            have hA := zres_blk wz2
            have hB := zres_below wz2
            generalize zres wz2 = wz6 at *
            obtain ⟨yb6, hyb6⟩ : ∃ x, x = wz2.heap.size := ⟨_, rfl⟩
            rw [← hyb6] at hA
            rw [← hyb6]
            have HBz6 := Lib.hid (bel_tr HBz2.out hB)
            have HLy := Lib.hid (show w4.heap.size ≤ yb6 from by rw [hyb6]; exact HBz2.out.size)
            have HKy6 := Lib.hid hA
            clear HBz2 hA hB hyb6
            refine oneL (i := 4) (by kernel_rfl) rfl (fun K hK => ?_)
            go_simp
            refine hK.out _ _ (bel_al2 HBz6.out) (fun _ => ?_)
            clear hK K
            try simp only [Act.put, List.setIfInBounds_toArray, List.set_cons_zero, List.set_cons_succ]
            change wpAnyL _ _ _ _ _ _ _ _ (zres wz6)
            have hA := zres_blk wz6
            have hB := zres_below wz6
            generalize zres wz6 = wz7 at *
            obtain ⟨xb7, hxb7⟩ : ∃ x, x = wz6.heap.size := ⟨_, rfl⟩
            rw [← hxb7] at hA
            rw [← hxb7]
            have HBz7 := Lib.hid (bel_tr HBz6.out hB)
            have HKy7 := Lib.hid (HKy6.out.below hB)
            have HXY := Lib.hid (show yb6 ≠ xb7 from by have := HKy6.out.1; omega)
            have HLx := Lib.hid (show w4.heap.size ≤ xb7 from by rw [hxb7]; exact HBz6.out.size)
            have HKx7 := Lib.hid hA
            clear HBz6 hA hB hxb7 HKy6
            have c0 := HKx7.out.cell 0 rfl; have f0 := HKx7.out.free 0 (by simp [Z10])
            have c1 := HKx7.out.cell 1 rfl; have f1 := HKx7.out.free 1 (by simp [Z10])
            have c2 := HKx7.out.cell 2 rfl; have f2 := HKx7.out.free 2 (by simp [Z10])
            have c3 := HKx7.out.cell 3 rfl; have f3 := HKx7.out.free 3 (by simp [Z10])
            have c4 := HKx7.out.cell 4 rfl; have f4 := HKx7.out.free 4 (by simp [Z10])
            have c5 := HKx7.out.cell 5 rfl; have f5 := HKx7.out.free 5 (by simp [Z10])
            have c6 := HKx7.out.cell 6 rfl; have f6 := HKx7.out.free 6 (by simp [Z10])
            have c7 := HKx7.out.cell 7 rfl; have f7 := HKx7.out.free 7 (by simp [Z10])
            have c8 := HKx7.out.cell 8 rfl; have f8 := HKx7.out.free 8 (by simp [Z10])
            have c9 := HKx7.out.cell 9 rfl; have f9 := HKx7.out.free 9 (by simp [Z10])
            refine oneL (i := 6) (by kernel_rfl) rfl (fun K hK => ?_)
            go_simp
            clear c0 f0 c1 f1 c2 f2 c3 f3 c4 f4 c5 f5 c6 f6 c7 f7 c8 f8 c9 f9
            have hk := st10_kept (w := wz7) (b := xb7) (.int .i64 ra) (.int .i64 rc) (.int .i64 0) (.int .i64 0) (.bool false) (.int .i64 0) (.int .i64 0) (.int .u64 0) (.string ⟨#[]⟩) (.slice none 0 0)
            have hb := st10_blk HKx7.out (.int .i64 ra) (.int .i64 rc) (.int .i64 0) (.int .i64 0) (.bool false) (.int .i64 0) (.int .i64 0) (.int .u64 0) (.string ⟨#[]⟩) (.slice none 0 0)
            have hB := ((Kept.of' (N := N1 xb7) HBz7.out).trans hk).below (Nat.le_refl _) (fun z hz e => by have := HLx.out; unfold N1 at e; omega)
            refine hK.out _ _ hB (fun _ => ?_)
            clear hK K
            try simp only [Act.put, List.setIfInBounds_toArray, List.set_cons_zero, List.set_cons_succ]
            change wpAnyL _ _ _ _ _ _ _ _ (st10 wz7 xb7 (.int .i64 ra) (.int .i64 rc) (.int .i64 0) (.int .i64 0) (.bool false) (.int .i64 0) (.int .i64 0) (.int .u64 0) (.string ⟨#[]⟩) (.slice none 0 0))
            have HYk := Lib.hid (HKy7.out.keep hk (fun e => by have := HXY.out; unfold N1 at e; omega))
            generalize st10 wz7 xb7 (.int .i64 ra) (.int .i64 rc) (.int .i64 0) (.int .i64 0) (.bool false) (.int .i64 0) (.int .i64 0) (.int .u64 0) (.string ⟨#[]⟩) (.slice none 0 0) = wS at *
            have HXk := Lib.hid hb
            have HBS := Lib.hid hB
            clear hk hb hB HKx7 HKy7 HBz7
            have c0 := HYk.out.cell 0 rfl; have f0 := HYk.out.free 0 (by simp [Z10])
            have c1 := HYk.out.cell 1 rfl; have f1 := HYk.out.free 1 (by simp [Z10])
            have c2 := HYk.out.cell 2 rfl; have f2 := HYk.out.free 2 (by simp [Z10])
            have c3 := HYk.out.cell 3 rfl; have f3 := HYk.out.free 3 (by simp [Z10])
            have c4 := HYk.out.cell 4 rfl; have f4 := HYk.out.free 4 (by simp [Z10])
            have c5 := HYk.out.cell 5 rfl; have f5 := HYk.out.free 5 (by simp [Z10])
            have c6 := HYk.out.cell 6 rfl; have f6 := HYk.out.free 6 (by simp [Z10])
            have c7 := HYk.out.cell 7 rfl; have f7 := HYk.out.free 7 (by simp [Z10])
            have c8 := HYk.out.cell 8 rfl; have f8 := HYk.out.free 8 (by simp [Z10])
            have c9 := HYk.out.cell 9 rfl; have f9 := HYk.out.free 9 (by simp [Z10])
            refine lastL (i := 7) (by kernel_rfl) rfl (by kernel_rfl) (by kernel_rfl) (fun K hK => ?_)
            go_simp
            clear c0 f0 c1 f1 c2 f2 c3 f3 c4 f4 c5 f5 c6 f6 c7 f7 c8 f8 c9 f9
            refine hK.out _ _ ?_
            clear hK K
            try simp only [Act.put, List.setIfInBounds_toArray, List.set_cons_zero, List.set_cons_succ]
            change Exit.then _ _ _ _ (st10 wS yb6 (.int .i64 ra) (.int .i64 rc) (.int .i64 0) (.int .i64 0) (.bool false) (.int .i64 0) (.int .i64 0) (.int .u64 0) (.string ⟨#[]⟩) (.slice none 0 0))
            have hk := st10_kept (w := wS) (b := yb6) (.int .i64 ra) (.int .i64 rc) (.int .i64 0) (.int .i64 0) (.bool false) (.int .i64 0) (.int .i64 0) (.int .u64 0) (.string ⟨#[]⟩) (.slice none 0 0)
            have hb := st10_blk HYk.out (.int .i64 ra) (.int .i64 rc) (.int .i64 0) (.int .i64 0) (.bool false) (.int .i64 0) (.int .i64 0) (.int .u64 0) (.string ⟨#[]⟩) (.slice none 0 0)
            have hB := ((Kept.of' (N := N1 yb6) HBS.out).trans hk).below (Nat.le_refl _) (fun z hz e => by have := HLy.out; unfold N1 at e; omega)
            have HXE := Lib.hid (HXk.out.keep hk (fun e => by have := HXY.out; unfold N1 at e; omega))
            generalize st10 wS yb6 (.int .i64 ra) (.int .i64 rc) (.int .i64 0) (.int .i64 0) (.bool false) (.int .i64 0) (.int .i64 0) (.int .u64 0) (.string ⟨#[]⟩) (.slice none 0 0) = wE at *
            have HYE := Lib.hid hb
            have HBE := Lib.hid hB
            clear hk hb hB HBS HXk HYk
            obtain ⟨⟨x0, x1, x2, x3, x4, x5, x6, x7, x8, x9, x10⟩, ⟨y0, y1, y2, y3, y4, y5, y6, y7, y8, y9, y10⟩⟩ := HSW.out _ HBE.out
            have c0 := HXE.out.cell 0 rfl; have d0 := HYE.out.cell 0 rfl
            have c1 := HXE.out.cell 1 rfl; have d1 := HYE.out.cell 1 rfl
            have c2 := HXE.out.cell 2 rfl; have d2 := HYE.out.cell 2 rfl
            have c3 := HXE.out.cell 3 rfl; have d3 := HYE.out.cell 3 rfl
            have c4 := HXE.out.cell 4 rfl; have d4 := HYE.out.cell 4 rfl
            have c5 := HXE.out.cell 5 rfl; have d5 := HYE.out.cell 5 rfl
            have c6 := HXE.out.cell 6 rfl; have d6 := HYE.out.cell 6 rfl
            have c7 := HXE.out.cell 7 rfl; have d7 := HYE.out.cell 7 rfl
            have c8 := HXE.out.cell 8 rfl; have d8 := HYE.out.cell 8 rfl
            have c9 := HXE.out.cell 9 rfl; have d9 := HYE.out.cell 9 rfl
            go_wp2_with (first
              | (go_at_call 15; (with_reducible refine (HC15.out _ HBE.out).mono ?_); rintro r9 w17 ⟨rfl, hB⟩; have HB17 := Lib.hid (bel_tr HBE.out hB); clear hB)
              | (go_at_call 11; (with_reducible refine (HW.out _).mono ?_); rintro r9 w18 ⟨rfl, hB⟩; have HB18 := Lib.hid (bel_tr HB17.out hB); clear hB))
            go_ret
            exact ⟨rfl, HB4.out.trans (HB18.out.mono HB4.out.size)⟩
        · skip
          go_simp
          refine hK.out _ _ (bel_al2 HBz1.out) (fun _ => ?_)
          clear hK K
          try simp only [Act.put, List.setIfInBounds_toArray, List.set_cons_zero, List.set_cons_succ]
          change wpAnyL _ _ _ _ _ _ _ _ (zres wz1)
          have hA := zres_blk wz1
          have hB := zres_below wz1
          generalize zres wz1 = wz9 at *
          obtain ⟨xb9, hxb9⟩ : ∃ x, x = wz1.heap.size := ⟨_, rfl⟩
          rw [← hxb9] at hA
          rw [← hxb9]
          have HBz9 := Lib.hid (bel_tr HBz1.out hB)
          have HLx := Lib.hid (show w4.heap.size ≤ xb9 from by rw [hxb9]; exact HBz1.out.size)
          have HKx9 := Lib.hid hA
          clear HBz1 hA hB hxb9
          refine manyL (rs := [3, 5]) (by kernel_rfl) (by simp) (two_of rfl rfl (fun K hK => ?_) (fun K hK => ?_))
          · skip
            (go_simp; go_at_call 31; (with_reducible refine (HC31.out _ HBz9.out).mono ?_); rintro r10 wz10 ⟨rfl, hB⟩; have HBz10 := Lib.hid (bel_tr HBz9.out hB); have HKx10 := Lib.hid (HKx9.out.below hB); clear hB)
            refine hK.out _ _ HBz10.out (fun _ => ?_)
            clear hK K HBz9 HKx9
            try simp only [Act.put, List.setIfInBounds_toArray, List.set_cons_zero, List.set_cons_succ]
            refine oneL (i := 5) (by kernel_rfl) rfl (fun K hK => ?_)
            go_simp
            refine hK.out _ _ (bel_al2 HBz10.out) (fun _ => ?_)
            clear hK K
            try simp only [Act.put, List.setIfInBounds_toArray, List.set_cons_zero, List.set_cons_succ]
            change wpAnyL _ _ _ _ _ _ _ _ (zres wz10)
            have hA := zres_blk wz10
            have hB := zres_below wz10
            generalize zres wz10 = wz11 at *
            obtain ⟨yb11, hyb11⟩ : ∃ x, x = wz10.heap.size := ⟨_, rfl⟩
            rw [← hyb11] at hA
            rw [← hyb11]
            have HBz11 := Lib.hid (bel_tr HBz10.out hB)
            have HKx11 := Lib.hid (HKx10.out.below hB)
            have HXY := Lib.hid (show xb9 ≠ yb11 from by have := HKx10.out.1; omega)
            have HLy := Lib.hid (show w4.heap.size ≤ yb11 from by rw [hyb11]; exact HBz10.out.size)
            have HKy11 := Lib.hid hA
            clear HBz10 hA hB hyb11 HKx10
            have c0 := HKx11.out.cell 0 rfl; have f0 := HKx11.out.free 0 (by simp [Z10])
            have c1 := HKx11.out.cell 1 rfl; have f1 := HKx11.out.free 1 (by simp [Z10])
            have c2 := HKx11.out.cell 2 rfl; have f2 := HKx11.out.free 2 (by simp [Z10])
            have c3 := HKx11.out.cell 3 rfl; have f3 := HKx11.out.free 3 (by simp [Z10])
            have c4 := HKx11.out.cell 4 rfl; have f4 := HKx11.out.free 4 (by simp [Z10])
            have c5 := HKx11.out.cell 5 rfl; have f5 := HKx11.out.free 5 (by simp [Z10])
            have c6 := HKx11.out.cell 6 rfl; have f6 := HKx11.out.free 6 (by simp [Z10])
            have c7 := HKx11.out.cell 7 rfl; have f7 := HKx11.out.free 7 (by simp [Z10])
            have c8 := HKx11.out.cell 8 rfl; have f8 := HKx11.out.free 8 (by simp [Z10])
            have c9 := HKx11.out.cell 9 rfl; have f9 := HKx11.out.free 9 (by simp [Z10])
            refine oneL (i := 6) (by kernel_rfl) rfl (fun K hK => ?_)
            go_simp
            clear c0 f0 c1 f1 c2 f2 c3 f3 c4 f4 c5 f5 c6 f6 c7 f7 c8 f8 c9 f9
            have hk := st10_kept (w := wz11) (b := xb9) (.int .i64 ra) (.int .i64 rc) (.int .i64 0) (.int .i64 0) (.bool false) (.int .i64 0) (.int .i64 0) (.int .u64 0) (.string ⟨#[]⟩) (.slice none 0 0)
            have hb := st10_blk HKx11.out (.int .i64 ra) (.int .i64 rc) (.int .i64 0) (.int .i64 0) (.bool false) (.int .i64 0) (.int .i64 0) (.int .u64 0) (.string ⟨#[]⟩) (.slice none 0 0)
            have hB := ((Kept.of' (N := N1 xb9) HBz11.out).trans hk).below (Nat.le_refl _) (fun z hz e => by have := HLx.out; unfold N1 at e; omega)
            refine hK.out _ _ hB (fun _ => ?_)
            clear hK K
            try simp only [Act.put, List.setIfInBounds_toArray, List.set_cons_zero, List.set_cons_succ]
            change wpAnyL _ _ _ _ _ _ _ _ (st10 wz11 xb9 (.int .i64 ra) (.int .i64 rc) (.int .i64 0) (.int .i64 0) (.bool false) (.int .i64 0) (.int .i64 0) (.int .u64 0) (.string ⟨#[]⟩) (.slice none 0 0))
            have HYk := Lib.hid (HKy11.out.keep hk (fun e => by have := HXY.out; unfold N1 at e; omega))
            generalize st10 wz11 xb9 (.int .i64 ra) (.int .i64 rc) (.int .i64 0) (.int .i64 0) (.bool false) (.int .i64 0) (.int .i64 0) (.int .u64 0) (.string ⟨#[]⟩) (.slice none 0 0) = wS at *
            have HXk := Lib.hid hb
            have HBS := Lib.hid hB
            clear hk hb hB HKx11 HKy11 HBz11
            have c0 := HYk.out.cell 0 rfl; have f0 := HYk.out.free 0 (by simp [Z10])
            have c1 := HYk.out.cell 1 rfl; have f1 := HYk.out.free 1 (by simp [Z10])
            have c2 := HYk.out.cell 2 rfl; have f2 := HYk.out.free 2 (by simp [Z10])
            have c3 := HYk.out.cell 3 rfl; have f3 := HYk.out.free 3 (by simp [Z10])
            have c4 := HYk.out.cell 4 rfl; have f4 := HYk.out.free 4 (by simp [Z10])
            have c5 := HYk.out.cell 5 rfl; have f5 := HYk.out.free 5 (by simp [Z10])
            have c6 := HYk.out.cell 6 rfl; have f6 := HYk.out.free 6 (by simp [Z10])
            have c7 := HYk.out.cell 7 rfl; have f7 := HYk.out.free 7 (by simp [Z10])
            have c8 := HYk.out.cell 8 rfl; have f8 := HYk.out.free 8 (by simp [Z10])
            have c9 := HYk.out.cell 9 rfl; have f9 := HYk.out.free 9 (by simp [Z10])
            refine lastL (i := 7) (by kernel_rfl) rfl (by kernel_rfl) (by kernel_rfl) (fun K hK => ?_)
            go_simp
            clear c0 f0 c1 f1 c2 f2 c3 f3 c4 f4 c5 f5 c6 f6 c7 f7 c8 f8 c9 f9
            refine hK.out _ _ ?_
            clear hK K
            try simp only [Act.put, List.setIfInBounds_toArray, List.set_cons_zero, List.set_cons_succ]
            change Exit.then _ _ _ _ (st10 wS yb11 (.int .i64 ra) (.int .i64 rc) (.int .i64 0) (.int .i64 0) (.bool false) (.int .i64 0) (.int .i64 0) (.int .u64 0) (.string ⟨#[]⟩) (.slice none 0 0))
            have hk := st10_kept (w := wS) (b := yb11) (.int .i64 ra) (.int .i64 rc) (.int .i64 0) (.int .i64 0) (.bool false) (.int .i64 0) (.int .i64 0) (.int .u64 0) (.string ⟨#[]⟩) (.slice none 0 0)
            have hb := st10_blk HYk.out (.int .i64 ra) (.int .i64 rc) (.int .i64 0) (.int .i64 0) (.bool false) (.int .i64 0) (.int .i64 0) (.int .u64 0) (.string ⟨#[]⟩) (.slice none 0 0)
            have hB := ((Kept.of' (N := N1 yb11) HBS.out).trans hk).below (Nat.le_refl _) (fun z hz e => by have := HLy.out; unfold N1 at e; omega)
            have HXE := Lib.hid (HXk.out.keep hk (fun e => by have := HXY.out; unfold N1 at e; omega))
            generalize st10 wS yb11 (.int .i64 ra) (.int .i64 rc) (.int .i64 0) (.int .i64 0) (.bool false) (.int .i64 0) (.int .i64 0) (.int .u64 0) (.string ⟨#[]⟩) (.slice none 0 0) = wE at *
            have HYE := Lib.hid hb
            have HBE := Lib.hid hB
            clear hk hb hB HBS HXk HYk
            obtain ⟨⟨x0, x1, x2, x3, x4, x5, x6, x7, x8, x9, x10⟩, ⟨y0, y1, y2, y3, y4, y5, y6, y7, y8, y9, y10⟩⟩ := HSW.out _ HBE.out
            have c0 := HXE.out.cell 0 rfl; have d0 := HYE.out.cell 0 rfl
            have c1 := HXE.out.cell 1 rfl; have d1 := HYE.out.cell 1 rfl
            have c2 := HXE.out.cell 2 rfl; have d2 := HYE.out.cell 2 rfl
            have c3 := HXE.out.cell 3 rfl; have d3 := HYE.out.cell 3 rfl
            have c4 := HXE.out.cell 4 rfl; have d4 := HYE.out.cell 4 rfl
            have c5 := HXE.out.cell 5 rfl; have d5 := HYE.out.cell 5 rfl
            have c6 := HXE.out.cell 6 rfl; have d6 := HYE.out.cell 6 rfl
            have c7 := HXE.out.cell 7 rfl; have d7 := HYE.out.cell 7 rfl
            have c8 := HXE.out.cell 8 rfl; have d8 := HYE.out.cell 8 rfl
            have c9 := HXE.out.cell 9 rfl; have d9 := HYE.out.cell 9 rfl
            go_wp2_with (first
              | (go_at_call 15; (with_reducible refine (HC15.out _ HBE.out).mono ?_); rintro r9 w17 ⟨rfl, hB⟩; have HB17 := Lib.hid (bel_tr HBE.out hB); clear hB)
              | (go_at_call 11; (with_reducible refine (HW.out _).mono ?_); rintro r9 w18 ⟨rfl, hB⟩; have HB18 := Lib.hid (bel_tr HB17.out hB); clear hB))
            go_ret
            exact ⟨rfl, HB4.out.trans (HB18.out.mono HB4.out.size)⟩
          · skip
            go_simp
            refine hK.out _ _ (bel_al2 HBz9.out) (fun _ => ?_)
            clear hK K
            try simp only [Act.put, List.setIfInBounds_toArray, List.set_cons_zero, List.set_cons_succ]
            change wpAnyL _ _ _ _ _ _ _ _ (zres wz9)
            have hA := zres_blk wz9
            have hB := zres_below wz9
            generalize zres wz9 = wz13 at *
            obtain ⟨yb13, hyb13⟩ : ∃ x, x = wz9.heap.size := ⟨_, rfl⟩
            rw [← hyb13] at hA
            rw [← hyb13]
            have HBz13 := Lib.hid (bel_tr HBz9.out hB)
            have HKx13 := Lib.hid (HKx9.out.below hB)
            have HXY := Lib.hid (show xb9 ≠ yb13 from by have := HKx9.out.1; omega)
            have HLy := Lib.hid (show w4.heap.size ≤ yb13 from by rw [hyb13]; exact HBz9.out.size)
            have HKy13 := Lib.hid hA
            clear HBz9 hA hB hyb13 HKx9
            refine oneL (i := 3) (by kernel_rfl) rfl (fun K hK => ?_)
            (go_simp; go_at_call 31; (with_reducible refine (HC31.out _ HBz13.out).mono ?_); rintro r14 wz14 ⟨rfl, hB⟩; have HBz14 := Lib.hid (bel_tr HBz13.out hB); have HKx14 := Lib.hid (HKx13.out.below hB); have HKy14 := Lib.hid (HKy13.out.below hB); clear hB)
            refine hK.out _ _ HBz14.out (fun _ => ?_)
            clear hK K HBz13 HKx13 HKy13
            try simp only [Act.put, List.setIfInBounds_toArray, List.set_cons_zero, List.set_cons_succ]
            have c0 := HKx14.out.cell 0 rfl; have f0 := HKx14.out.free 0 (by simp [Z10])
            have c1 := HKx14.out.cell 1 rfl; have f1 := HKx14.out.free 1 (by simp [Z10])
            have c2 := HKx14.out.cell 2 rfl; have f2 := HKx14.out.free 2 (by simp [Z10])
            have c3 := HKx14.out.cell 3 rfl; have f3 := HKx14.out.free 3 (by simp [Z10])
            have c4 := HKx14.out.cell 4 rfl; have f4 := HKx14.out.free 4 (by simp [Z10])
            have c5 := HKx14.out.cell 5 rfl; have f5 := HKx14.out.free 5 (by simp [Z10])
            have c6 := HKx14.out.cell 6 rfl; have f6 := HKx14.out.free 6 (by simp [Z10])
            have c7 := HKx14.out.cell 7 rfl; have f7 := HKx14.out.free 7 (by simp [Z10])
            have c8 := HKx14.out.cell 8 rfl; have f8 := HKx14.out.free 8 (by simp [Z10])
            have c9 := HKx14.out.cell 9 rfl; have f9 := HKx14.out.free 9 (by simp [Z10])
            refine oneL (i := 6) (by kernel_rfl) rfl (fun K hK => ?_)
            go_simp
            clear c0 f0 c1 f1 c2 f2 c3 f3 c4 f4 c5 f5 c6 f6 c7 f7 c8 f8 c9 f9
            have hk := st10_kept (w := wz14) (b := xb9) (.int .i64 ra) (.int .i64 rc) (.int .i64 0) (.int .i64 0) (.bool false) (.int .i64 0) (.int .i64 0) (.int .u64 0) (.string ⟨#[]⟩) (.slice none 0 0)
            have hb := st10_blk HKx14.out (.int .i64 ra) (.int .i64 rc) (.int .i64 0) (.int .i64 0) (.bool false) (.int .i64 0) (.int .i64 0) (.int .u64 0) (.string ⟨#[]⟩) (.slice none 0 0)
            have hB := ((Kept.of' (N := N1 xb9) HBz14.out).trans hk).below (Nat.le_refl _) (fun z hz e => by have := HLx.out; unfold N1 at e; omega)
            refine hK.out _ _ hB (fun _ => ?_)
            clear hK K
            try simp only [Act.put, List.setIfInBounds_toArray, List.set_cons_zero, List.set_cons_succ]
            change wpAnyL _ _ _ _ _ _ _ _ (st10 wz14 xb9 (.int .i64 ra) (.int .i64 rc) (.int .i64 0) (.int .i64 0) (.bool false) (.int .i64 0) (.int .i64 0) (.int .u64 0) (.string ⟨#[]⟩) (.slice none 0 0))
            have HYk := Lib.hid (HKy14.out.keep hk (fun e => by have := HXY.out; unfold N1 at e; omega))
            generalize st10 wz14 xb9 (.int .i64 ra) (.int .i64 rc) (.int .i64 0) (.int .i64 0) (.bool false) (.int .i64 0) (.int .i64 0) (.int .u64 0) (.string ⟨#[]⟩) (.slice none 0 0) = wS at *
            have HXk := Lib.hid hb
            have HBS := Lib.hid hB
            clear hk hb hB HKx14 HKy14 HBz14
            have c0 := HYk.out.cell 0 rfl; have f0 := HYk.out.free 0 (by simp [Z10])
            have c1 := HYk.out.cell 1 rfl; have f1 := HYk.out.free 1 (by simp [Z10])
            have c2 := HYk.out.cell 2 rfl; have f2 := HYk.out.free 2 (by simp [Z10])
            have c3 := HYk.out.cell 3 rfl; have f3 := HYk.out.free 3 (by simp [Z10])
            have c4 := HYk.out.cell 4 rfl; have f4 := HYk.out.free 4 (by simp [Z10])
            have c5 := HYk.out.cell 5 rfl; have f5 := HYk.out.free 5 (by simp [Z10])
            have c6 := HYk.out.cell 6 rfl; have f6 := HYk.out.free 6 (by simp [Z10])
            have c7 := HYk.out.cell 7 rfl; have f7 := HYk.out.free 7 (by simp [Z10])
            have c8 := HYk.out.cell 8 rfl; have f8 := HYk.out.free 8 (by simp [Z10])
            have c9 := HYk.out.cell 9 rfl; have f9 := HYk.out.free 9 (by simp [Z10])
            refine lastL (i := 7) (by kernel_rfl) rfl (by kernel_rfl) (by kernel_rfl) (fun K hK => ?_)
            go_simp
            clear c0 f0 c1 f1 c2 f2 c3 f3 c4 f4 c5 f5 c6 f6 c7 f7 c8 f8 c9 f9
            refine hK.out _ _ ?_
            clear hK K
            try simp only [Act.put, List.setIfInBounds_toArray, List.set_cons_zero, List.set_cons_succ]
            change Exit.then _ _ _ _ (st10 wS yb13 (.int .i64 ra) (.int .i64 rc) (.int .i64 0) (.int .i64 0) (.bool false) (.int .i64 0) (.int .i64 0) (.int .u64 0) (.string ⟨#[]⟩) (.slice none 0 0))
            have hk := st10_kept (w := wS) (b := yb13) (.int .i64 ra) (.int .i64 rc) (.int .i64 0) (.int .i64 0) (.bool false) (.int .i64 0) (.int .i64 0) (.int .u64 0) (.string ⟨#[]⟩) (.slice none 0 0)
            have hb := st10_blk HYk.out (.int .i64 ra) (.int .i64 rc) (.int .i64 0) (.int .i64 0) (.bool false) (.int .i64 0) (.int .i64 0) (.int .u64 0) (.string ⟨#[]⟩) (.slice none 0 0)
            have hB := ((Kept.of' (N := N1 yb13) HBS.out).trans hk).below (Nat.le_refl _) (fun z hz e => by have := HLy.out; unfold N1 at e; omega)
            have HXE := Lib.hid (HXk.out.keep hk (fun e => by have := HXY.out; unfold N1 at e; omega))
            generalize st10 wS yb13 (.int .i64 ra) (.int .i64 rc) (.int .i64 0) (.int .i64 0) (.bool false) (.int .i64 0) (.int .i64 0) (.int .u64 0) (.string ⟨#[]⟩) (.slice none 0 0) = wE at *
            have HYE := Lib.hid hb
            have HBE := Lib.hid hB
            clear hk hb hB HBS HXk HYk
            obtain ⟨⟨x0, x1, x2, x3, x4, x5, x6, x7, x8, x9, x10⟩, ⟨y0, y1, y2, y3, y4, y5, y6, y7, y8, y9, y10⟩⟩ := HSW.out _ HBE.out
            have c0 := HXE.out.cell 0 rfl; have d0 := HYE.out.cell 0 rfl
            have c1 := HXE.out.cell 1 rfl; have d1 := HYE.out.cell 1 rfl
            have c2 := HXE.out.cell 2 rfl; have d2 := HYE.out.cell 2 rfl
            have c3 := HXE.out.cell 3 rfl; have d3 := HYE.out.cell 3 rfl
            have c4 := HXE.out.cell 4 rfl; have d4 := HYE.out.cell 4 rfl
            have c5 := HXE.out.cell 5 rfl; have d5 := HYE.out.cell 5 rfl
            have c6 := HXE.out.cell 6 rfl; have d6 := HYE.out.cell 6 rfl
            have c7 := HXE.out.cell 7 rfl; have d7 := HYE.out.cell 7 rfl
            have c8 := HXE.out.cell 8 rfl; have d8 := HYE.out.cell 8 rfl
            have c9 := HXE.out.cell 9 rfl; have d9 := HYE.out.cell 9 rfl
            go_wp2_with (first
              | (go_at_call 15; (with_reducible refine (HC15.out _ HBE.out).mono ?_); rintro r9 w17 ⟨rfl, hB⟩; have HB17 := Lib.hid (bel_tr HBE.out hB); clear hB)
              | (go_at_call 11; (with_reducible refine (HW.out _).mono ?_); rintro r9 w18 ⟨rfl, hB⟩; have HB18 := Lib.hid (bel_tr HB17.out hB); clear hB))
            go_ret
            exact ⟨rfl, HB4.out.trans (HB18.out.mono HB4.out.size)⟩
        · skip
          go_simp
          refine hK.out _ _ (bel_al2 HBz1.out) (fun _ => ?_)
          clear hK K
          try simp only [Act.put, List.setIfInBounds_toArray, List.set_cons_zero, List.set_cons_succ]
          change wpAnyL _ _ _ _ _ _ _ _ (zres wz1)
          have hA := zres_blk wz1
          have hB := zres_below wz1
          generalize zres wz1 = wz16 at *
          obtain ⟨yb16, hyb16⟩ : ∃ x, x = wz1.heap.size := ⟨_, rfl⟩
          rw [← hyb16] at hA
          rw [← hyb16]
          have HBz16 := Lib.hid (bel_tr HBz1.out hB)
          have HLy := Lib.hid (show w4.heap.size ≤ yb16 from by rw [hyb16]; exact HBz1.out.size)
          have HKy16 := Lib.hid hA
          clear HBz1 hA hB hyb16
          refine manyL (rs := [3, 4]) (by kernel_rfl) (by simp) (two_of rfl rfl (fun K hK => ?_) (fun K hK => ?_))
          · skip
            (go_simp; go_at_call 31; (with_reducible refine (HC31.out _ HBz16.out).mono ?_); rintro r17 wz17 ⟨rfl, hB⟩; have HBz17 := Lib.hid (bel_tr HBz16.out hB); have HKy17 := Lib.hid (HKy16.out.below hB); clear hB)
            refine hK.out _ _ HBz17.out (fun _ => ?_)
            clear hK K HBz16 HKy16
            try simp only [Act.put, List.setIfInBounds_toArray, List.set_cons_zero, List.set_cons_succ]
            refine oneL (i := 4) (by kernel_rfl) rfl (fun K hK => ?_)
            go_simp
            refine hK.out _ _ (bel_al2 HBz17.out) (fun _ => ?_)
            clear hK K
            try simp only [Act.put, List.setIfInBounds_toArray, List.set_cons_zero, List.set_cons_succ]
            change wpAnyL _ _ _ _ _ _ _ _ (zres wz17)
            have hA := zres_blk wz17
            have hB := zres_below wz17
            generalize zres wz17 = wz18 at *
            obtain ⟨xb18, hxb18⟩ : ∃ x, x = wz17.heap.size := ⟨_, rfl⟩
            rw [← hxb18] at hA
            rw [← hxb18]
            have HBz18 := Lib.hid (bel_tr HBz17.out hB)
            have HKy18 := Lib.hid (HKy17.out.below hB)
            have HXY := Lib.hid (show yb16 ≠ xb18 from by have := HKy17.out.1; omega)
            have HLx := Lib.hid (show w4.heap.size ≤ xb18 from by rw [hxb18]; exact HBz17.out.size)
            have HKx18 := Lib.hid hA
            clear HBz17 hA hB hxb18 HKy17
            have c0 := HKx18.out.cell 0 rfl; have f0 := HKx18.out.free 0 (by simp [Z10])
            have c1 := HKx18.out.cell 1 rfl; have f1 := HKx18.out.free 1 (by simp [Z10])
            have c2 := HKx18.out.cell 2 rfl; have f2 := HKx18.out.free 2 (by simp [Z10])
            have c3 := HKx18.out.cell 3 rfl; have f3 := HKx18.out.free 3 (by simp [Z10])
            have c4 := HKx18.out.cell 4 rfl; have f4 := HKx18.out.free 4 (by simp [Z10])
            have c5 := HKx18.out.cell 5 rfl; have f5 := HKx18.out.free 5 (by simp [Z10])
            have c6 := HKx18.out.cell 6 rfl; have f6 := HKx18.out.free 6 (by simp [Z10])
            have c7 := HKx18.out.cell 7 rfl; have f7 := HKx18.out.free 7 (by simp [Z10])
            have c8 := HKx18.out.cell 8 rfl; have f8 := HKx18.out.free 8 (by simp [Z10])
            have c9 := HKx18.out.cell 9 rfl; have f9 := HKx18.out.free 9 (by simp [Z10])
            refine oneL (i := 6) (by kernel_rfl) rfl (fun K hK => ?_)
            go_simp
            clear c0 f0 c1 f1 c2 f2 c3 f3 c4 f4 c5 f5 c6 f6 c7 f7 c8 f8 c9 f9
            have hk := st10_kept (w := wz18) (b := xb18) (.int .i64 ra) (.int .i64 rc) (.int .i64 0) (.int .i64 0) (.bool false) (.int .i64 0) (.int .i64 0) (.int .u64 0) (.string ⟨#[]⟩) (.slice none 0 0)
            have hb := st10_blk HKx18.out (.int .i64 ra) (.int .i64 rc) (.int .i64 0) (.int .i64 0) (.bool false) (.int .i64 0) (.int .i64 0) (.int .u64 0) (.string ⟨#[]⟩) (.slice none 0 0)
            have hB := ((Kept.of' (N := N1 xb18) HBz18.out).trans hk).below (Nat.le_refl _) (fun z hz e => by have := HLx.out; unfold N1 at e; omega)
            refine hK.out _ _ hB (fun _ => ?_)
            clear hK K
            try simp only [Act.put, List.setIfInBounds_toArray, List.set_cons_zero, List.set_cons_succ]
            change wpAnyL _ _ _ _ _ _ _ _ (st10 wz18 xb18 (.int .i64 ra) (.int .i64 rc) (.int .i64 0) (.int .i64 0) (.bool false) (.int .i64 0) (.int .i64 0) (.int .u64 0) (.string ⟨#[]⟩) (.slice none 0 0))
            have HYk := Lib.hid (HKy18.out.keep hk (fun e => by have := HXY.out; unfold N1 at e; omega))
            generalize st10 wz18 xb18 (.int .i64 ra) (.int .i64 rc) (.int .i64 0) (.int .i64 0) (.bool false) (.int .i64 0) (.int .i64 0) (.int .u64 0) (.string ⟨#[]⟩) (.slice none 0 0) = wS at *
            have HXk := Lib.hid hb
            have HBS := Lib.hid hB
            clear hk hb hB HKx18 HKy18 HBz18
            have c0 := HYk.out.cell 0 rfl; have f0 := HYk.out.free 0 (by simp [Z10])
            have c1 := HYk.out.cell 1 rfl; have f1 := HYk.out.free 1 (by simp [Z10])
            have c2 := HYk.out.cell 2 rfl; have f2 := HYk.out.free 2 (by simp [Z10])
            have c3 := HYk.out.cell 3 rfl; have f3 := HYk.out.free 3 (by simp [Z10])
            have c4 := HYk.out.cell 4 rfl; have f4 := HYk.out.free 4 (by simp [Z10])
            have c5 := HYk.out.cell 5 rfl; have f5 := HYk.out.free 5 (by simp [Z10])
            have c6 := HYk.out.cell 6 rfl; have f6 := HYk.out.free 6 (by simp [Z10])
            have c7 := HYk.out.cell 7 rfl; have f7 := HYk.out.free 7 (by simp [Z10])
            have c8 := HYk.out.cell 8 rfl; have f8 := HYk.out.free 8 (by simp [Z10])
            have c9 := HYk.out.cell 9 rfl; have f9 := HYk.out.free 9 (by simp [Z10])
            refine lastL (i := 7) (by kernel_rfl) rfl (by kernel_rfl) (by kernel_rfl) (fun K hK => ?_)
            go_simp
            clear c0 f0 c1 f1 c2 f2 c3 f3 c4 f4 c5 f5 c6 f6 c7 f7 c8 f8 c9 f9
            refine hK.out _ _ ?_
            clear hK K
            try simp only [Act.put, List.setIfInBounds_toArray, List.set_cons_zero, List.set_cons_succ]
            change Exit.then _ _ _ _ (st10 wS yb16 (.int .i64 ra) (.int .i64 rc) (.int .i64 0) (.int .i64 0) (.bool false) (.int .i64 0) (.int .i64 0) (.int .u64 0) (.string ⟨#[]⟩) (.slice none 0 0))
            have hk := st10_kept (w := wS) (b := yb16) (.int .i64 ra) (.int .i64 rc) (.int .i64 0) (.int .i64 0) (.bool false) (.int .i64 0) (.int .i64 0) (.int .u64 0) (.string ⟨#[]⟩) (.slice none 0 0)
            have hb := st10_blk HYk.out (.int .i64 ra) (.int .i64 rc) (.int .i64 0) (.int .i64 0) (.bool false) (.int .i64 0) (.int .i64 0) (.int .u64 0) (.string ⟨#[]⟩) (.slice none 0 0)
            have hB := ((Kept.of' (N := N1 yb16) HBS.out).trans hk).below (Nat.le_refl _) (fun z hz e => by have := HLy.out; unfold N1 at e; omega)
            have HXE := Lib.hid (HXk.out.keep hk (fun e => by have := HXY.out; unfold N1 at e; omega))
            generalize st10 wS yb16 (.int .i64 ra) (.int .i64 rc) (.int .i64 0) (.int .i64 0) (.bool false) (.int .i64 0) (.int .i64 0) (.int .u64 0) (.string ⟨#[]⟩) (.slice none 0 0) = wE at *
            have HYE := Lib.hid hb
            have HBE := Lib.hid hB
            clear hk hb hB HBS HXk HYk
            obtain ⟨⟨x0, x1, x2, x3, x4, x5, x6, x7, x8, x9, x10⟩, ⟨y0, y1, y2, y3, y4, y5, y6, y7, y8, y9, y10⟩⟩ := HSW.out _ HBE.out
            have c0 := HXE.out.cell 0 rfl; have d0 := HYE.out.cell 0 rfl
            have c1 := HXE.out.cell 1 rfl; have d1 := HYE.out.cell 1 rfl
            have c2 := HXE.out.cell 2 rfl; have d2 := HYE.out.cell 2 rfl
            have c3 := HXE.out.cell 3 rfl; have d3 := HYE.out.cell 3 rfl
            have c4 := HXE.out.cell 4 rfl; have d4 := HYE.out.cell 4 rfl
            have c5 := HXE.out.cell 5 rfl; have d5 := HYE.out.cell 5 rfl
            have c6 := HXE.out.cell 6 rfl; have d6 := HYE.out.cell 6 rfl
            have c7 := HXE.out.cell 7 rfl; have d7 := HYE.out.cell 7 rfl
            have c8 := HXE.out.cell 8 rfl; have d8 := HYE.out.cell 8 rfl
            have c9 := HXE.out.cell 9 rfl; have d9 := HYE.out.cell 9 rfl
            go_wp2_with (first
              | (go_at_call 15; (with_reducible refine (HC15.out _ HBE.out).mono ?_); rintro r9 w17 ⟨rfl, hB⟩; have HB17 := Lib.hid (bel_tr HBE.out hB); clear hB)
              | (go_at_call 11; (with_reducible refine (HW.out _).mono ?_); rintro r9 w18 ⟨rfl, hB⟩; have HB18 := Lib.hid (bel_tr HB17.out hB); clear hB))
            go_ret
            exact ⟨rfl, HB4.out.trans (HB18.out.mono HB4.out.size)⟩
          · skip
            go_simp
            refine hK.out _ _ (bel_al2 HBz16.out) (fun _ => ?_)
            clear hK K
            try simp only [Act.put, List.setIfInBounds_toArray, List.set_cons_zero, List.set_cons_succ]
            change wpAnyL _ _ _ _ _ _ _ _ (zres wz16)
            have hA := zres_blk wz16
            have hB := zres_below wz16
            generalize zres wz16 = wz20 at *
            obtain ⟨xb20, hxb20⟩ : ∃ x, x = wz16.heap.size := ⟨_, rfl⟩
            rw [← hxb20] at hA
            rw [← hxb20]
            have HBz20 := Lib.hid (bel_tr HBz16.out hB)
            have HKy20 := Lib.hid (HKy16.out.below hB)
            have HXY := Lib.hid (show yb16 ≠ xb20 from by have := HKy16.out.1; omega)
            have HLx := Lib.hid (show w4.heap.size ≤ xb20 from by rw [hxb20]; exact HBz16.out.size)
            have HKx20 := Lib.hid hA
            clear HBz16 hA hB hxb20 HKy16
            refine oneL (i := 3) (by kernel_rfl) rfl (fun K hK => ?_)
            (go_simp; go_at_call 31; (with_reducible refine (HC31.out _ HBz20.out).mono ?_); rintro r21 wz21 ⟨rfl, hB⟩; have HBz21 := Lib.hid (bel_tr HBz20.out hB); have HKy21 := Lib.hid (HKy20.out.below hB); have HKx21 := Lib.hid (HKx20.out.below hB); clear hB)
            refine hK.out _ _ HBz21.out (fun _ => ?_)
            clear hK K HBz20 HKy20 HKx20
            try simp only [Act.put, List.setIfInBounds_toArray, List.set_cons_zero, List.set_cons_succ]
            have c0 := HKx21.out.cell 0 rfl; have f0 := HKx21.out.free 0 (by simp [Z10])
            have c1 := HKx21.out.cell 1 rfl; have f1 := HKx21.out.free 1 (by simp [Z10])
            have c2 := HKx21.out.cell 2 rfl; have f2 := HKx21.out.free 2 (by simp [Z10])
            have c3 := HKx21.out.cell 3 rfl; have f3 := HKx21.out.free 3 (by simp [Z10])
            have c4 := HKx21.out.cell 4 rfl; have f4 := HKx21.out.free 4 (by simp [Z10])
            have c5 := HKx21.out.cell 5 rfl; have f5 := HKx21.out.free 5 (by simp [Z10])
            have c6 := HKx21.out.cell 6 rfl; have f6 := HKx21.out.free 6 (by simp [Z10])
            have c7 := HKx21.out.cell 7 rfl; have f7 := HKx21.out.free 7 (by simp [Z10])
            have c8 := HKx21.out.cell 8 rfl; have f8 := HKx21.out.free 8 (by simp [Z10])
            have c9 := HKx21.out.cell 9 rfl; have f9 := HKx21.out.free 9 (by simp [Z10])
            refine oneL (i := 6) (by kernel_rfl) rfl (fun K hK => ?_)
            go_simp
            clear c0 f0 c1 f1 c2 f2 c3 f3 c4 f4 c5 f5 c6 f6 c7 f7 c8 f8 c9 f9
            have hk := st10_kept (w := wz21) (b := xb20) (.int .i64 ra) (.int .i64 rc) (.int .i64 0) (.int .i64 0) (.bool false) (.int .i64 0) (.int .i64 0) (.int .u64 0) (.string ⟨#[]⟩) (.slice none 0 0)
            have hb := st10_blk HKx21.out (.int .i64 ra) (.int .i64 rc) (.int .i64 0) (.int .i64 0) (.bool false) (.int .i64 0) (.int .i64 0) (.int .u64 0) (.string ⟨#[]⟩) (.slice none 0 0)
            have hB := ((Kept.of' (N := N1 xb20) HBz21.out).trans hk).below (Nat.le_refl _) (fun z hz e => by have := HLx.out; unfold N1 at e; omega)
            refine hK.out _ _ hB (fun _ => ?_)
            clear hK K
            try simp only [Act.put, List.setIfInBounds_toArray, List.set_cons_zero, List.set_cons_succ]
            change wpAnyL _ _ _ _ _ _ _ _ (st10 wz21 xb20 (.int .i64 ra) (.int .i64 rc) (.int .i64 0) (.int .i64 0) (.bool false) (.int .i64 0) (.int .i64 0) (.int .u64 0) (.string ⟨#[]⟩) (.slice none 0 0))
            have HYk := Lib.hid (HKy21.out.keep hk (fun e => by have := HXY.out; unfold N1 at e; omega))
            generalize st10 wz21 xb20 (.int .i64 ra) (.int .i64 rc) (.int .i64 0) (.int .i64 0) (.bool false) (.int .i64 0) (.int .i64 0) (.int .u64 0) (.string ⟨#[]⟩) (.slice none 0 0) = wS at *
            have HXk := Lib.hid hb
            have HBS := Lib.hid hB
            clear hk hb hB HKx21 HKy21 HBz21
            have c0 := HYk.out.cell 0 rfl; have f0 := HYk.out.free 0 (by simp [Z10])
            have c1 := HYk.out.cell 1 rfl; have f1 := HYk.out.free 1 (by simp [Z10])
            have c2 := HYk.out.cell 2 rfl; have f2 := HYk.out.free 2 (by simp [Z10])
            have c3 := HYk.out.cell 3 rfl; have f3 := HYk.out.free 3 (by simp [Z10])
            have c4 := HYk.out.cell 4 rfl; have f4 := HYk.out.free 4 (by simp [Z10])
            have c5 := HYk.out.cell 5 rfl; have f5 := HYk.out.free 5 (by simp [Z10])
            have c6 := HYk.out.cell 6 rfl; have f6 := HYk.out.free 6 (by simp [Z10])
            have c7 := HYk.out.cell 7 rfl; have f7 := HYk.out.free 7 (by simp [Z10])
            have c8 := HYk.out.cell 8 rfl; have f8 := HYk.out.free 8 (by simp [Z10])
            have c9 := HYk.out.cell 9 rfl; have f9 := HYk.out.free 9 (by simp [Z10])
            refine lastL (i := 7) (by kernel_rfl) rfl (by kernel_rfl) (by kernel_rfl) (fun K hK => ?_)
            go_simp
            clear c0 f0 c1 f1 c2 f2 c3 f3 c4 f4 c5 f5 c6 f6 c7 f7 c8 f8 c9 f9
            refine hK.out _ _ ?_
            clear hK K
            try simp only [Act.put, List.setIfInBounds_toArray, List.set_cons_zero, List.set_cons_succ]
            change Exit.then _ _ _ _ (st10 wS yb16 (.int .i64 ra) (.int .i64 rc) (.int .i64 0) (.int .i64 0) (.bool false) (.int .i64 0) (.int .i64 0) (.int .u64 0) (.string ⟨#[]⟩) (.slice none 0 0))
            have hk := st10_kept (w := wS) (b := yb16) (.int .i64 ra) (.int .i64 rc) (.int .i64 0) (.int .i64 0) (.bool false) (.int .i64 0) (.int .i64 0) (.int .u64 0) (.string ⟨#[]⟩) (.slice none 0 0)
            have hb := st10_blk HYk.out (.int .i64 ra) (.int .i64 rc) (.int .i64 0) (.int .i64 0) (.bool false) (.int .i64 0) (.int .i64 0) (.int .u64 0) (.string ⟨#[]⟩) (.slice none 0 0)
            have hB := ((Kept.of' (N := N1 yb16) HBS.out).trans hk).below (Nat.le_refl _) (fun z hz e => by have := HLy.out; unfold N1 at e; omega)
            have HXE := Lib.hid (HXk.out.keep hk (fun e => by have := HXY.out; unfold N1 at e; omega))
            generalize st10 wS yb16 (.int .i64 ra) (.int .i64 rc) (.int .i64 0) (.int .i64 0) (.bool false) (.int .i64 0) (.int .i64 0) (.int .u64 0) (.string ⟨#[]⟩) (.slice none 0 0) = wE at *
            have HYE := Lib.hid hb
            have HBE := Lib.hid hB
            clear hk hb hB HBS HXk HYk
            obtain ⟨⟨x0, x1, x2, x3, x4, x5, x6, x7, x8, x9, x10⟩, ⟨y0, y1, y2, y3, y4, y5, y6, y7, y8, y9, y10⟩⟩ := HSW.out _ HBE.out
            have c0 := HXE.out.cell 0 rfl; have d0 := HYE.out.cell 0 rfl
            have c1 := HXE.out.cell 1 rfl; have d1 := HYE.out.cell 1 rfl
            have c2 := HXE.out.cell 2 rfl; have d2 := HYE.out.cell 2 rfl
            have c3 := HXE.out.cell 3 rfl; have d3 := HYE.out.cell 3 rfl
            have c4 := HXE.out.cell 4 rfl; have d4 := HYE.out.cell 4 rfl
            have c5 := HXE.out.cell 5 rfl; have d5 := HYE.out.cell 5 rfl
            have c6 := HXE.out.cell 6 rfl; have d6 := HYE.out.cell 6 rfl
            have c7 := HXE.out.cell 7 rfl; have d7 := HYE.out.cell 7 rfl
            have c8 := HXE.out.cell 8 rfl; have d8 := HYE.out.cell 8 rfl
            have c9 := HXE.out.cell 9 rfl; have d9 := HYE.out.cell 9 rfl
            go_wp2_with (first
              | (go_at_call 15; (with_reducible refine (HC15.out _ HBE.out).mono ?_); rintro r9 w17 ⟨rfl, hB⟩; have HB17 := Lib.hid (bel_tr HBE.out hB); clear hB)
              | (go_at_call 11; (with_reducible refine (HW.out _).mono ?_); rintro r9 w18 ⟨rfl, hB⟩; have HB18 := Lib.hid (bel_tr HB17.out hB); clear hB))
            go_ret
            exact ⟨rfl, HB4.out.trans (HB18.out.mono HB4.out.size)⟩
      · skip
        go_simp
        refine hK.out _ _ (bel_al2 HBD.out) (fun _ => ?_)
        clear hK K
        try simp only [Act.put, List.setIfInBounds_toArray, List.set_cons_zero, List.set_cons_succ]
        change wpAnyL _ _ _ _ _ _ _ _ (zres wd)
        have hA := zres_blk wd
        have hB := zres_below wd
        generalize zres wd = wz23 at *
        obtain ⟨xb23, hxb23⟩ : ∃ x, x = wd.heap.size := ⟨_, rfl⟩
        rw [← hxb23] at hA
        rw [← hxb23]
        have HBz23 := Lib.hid (bel_tr HBD.out hB)
        have HLx := Lib.hid (show w4.heap.size ≤ xb23 from by rw [hxb23]; exact HBD.out.size)
        have HKx23 := Lib.hid hA
        clear HBD hA hB hxb23
        refine manyL (rs := [1, 5]) (by kernel_rfl) (by simp) (two_of rfl rfl (fun K hK => ?_) (fun K hK => ?_))
        · skip
          (go_simp; go_at_call 30; (with_reducible refine (HC30.out _ HBz23.out).mono ?_); rintro r24 wz24 ⟨rfl, hB⟩; have HBz24 := Lib.hid (bel_tr HBz23.out hB); have HKx24 := Lib.hid (HKx23.out.below hB); clear hB)
          refine hK.out _ _ HBz24.out (fun _ => ?_)
          clear hK K HBz23 HKx23
          try simp only [Act.put, List.setIfInBounds_toArray, List.set_cons_zero, List.set_cons_succ]
          refine manyL (rs := [3, 5]) (by kernel_rfl) (by simp) (two_of rfl rfl (fun K hK => ?_) (fun K hK => ?_))
          · skip
            (go_simp; go_at_call 31; (with_reducible refine (HC31.out _ HBz24.out).mono ?_); rintro r25 wz25 ⟨rfl, hB⟩; have HBz25 := Lib.hid (bel_tr HBz24.out hB); have HKx25 := Lib.hid (HKx24.out.below hB); clear hB)
            refine hK.out _ _ HBz25.out (fun _ => ?_)
            clear hK K HBz24 HKx24
            try simp only [Act.put, List.setIfInBounds_toArray, List.set_cons_zero, List.set_cons_succ]
            refine oneL (i := 5) (by kernel_rfl) rfl (fun K hK => ?_)
            go_simp
            refine hK.out _ _ (bel_al2 HBz25.out) (fun _ => ?_)
            clear hK K
            try simp only [Act.put, List.setIfInBounds_toArray, List.set_cons_zero, List.set_cons_succ]
            change wpAnyL _ _ _ _ _ _ _ _ (zres wz25)
            have hA := zres_blk wz25
            have hB := zres_below wz25
            generalize zres wz25 = wz26 at *
            obtain ⟨yb26, hyb26⟩ : ∃ x, x = wz25.heap.size := ⟨_, rfl⟩
            rw [← hyb26] at hA
            rw [← hyb26]
            have HBz26 := Lib.hid (bel_tr HBz25.out hB)
            have HKx26 := Lib.hid (HKx25.out.below hB)
            have HXY := Lib.hid (show xb23 ≠ yb26 from by have := HKx25.out.1; omega)
            have HLy := Lib.hid (show w4.heap.size ≤ yb26 from by rw [hyb26]; exact HBz25.out.size)
            have HKy26 := Lib.hid hA
            clear HBz25 hA hB hyb26 HKx25
            have c0 := HKx26.out.cell 0 rfl; have f0 := HKx26.out.free 0 (by simp [Z10])
            have c1 := HKx26.out.cell 1 rfl; have f1 := HKx26.out.free 1 (by simp [Z10])
            have c2 := HKx26.out.cell 2 rfl; have f2 := HKx26.out.free 2 (by simp [Z10])
            have c3 := HKx26.out.cell 3 rfl; have f3 := HKx26.out.free 3 (by simp [Z10])
            have c4 := HKx26.out.cell 4 rfl; have f4 := HKx26.out.free 4 (by simp [Z10])
            have c5 := HKx26.out.cell 5 rfl; have f5 := HKx26.out.free 5 (by simp [Z10])
            have c6 := HKx26.out.cell 6 rfl; have f6 := HKx26.out.free 6 (by simp [Z10])
            have c7 := HKx26.out.cell 7 rfl; have f7 := HKx26.out.free 7 (by simp [Z10])
            have c8 := HKx26.out.cell 8 rfl; have f8 := HKx26.out.free 8 (by simp [Z10])
            have c9 := HKx26.out.cell 9 rfl; have f9 := HKx26.out.free 9 (by simp [Z10])
            refine oneL (i := 6) (by kernel_rfl) rfl (fun K hK => ?_)
            go_simp
            clear c0 f0 c1 f1 c2 f2 c3 f3 c4 f4 c5 f5 c6 f6 c7 f7 c8 f8 c9 f9
            have hk := st10_kept (w := wz26) (b := xb23) (.int .i64 ra) (.int .i64 rc) (.int .i64 0) (.int .i64 0) (.bool false) (.int .i64 0) (.int .i64 0) (.int .u64 0) (.string ⟨#[]⟩) (.slice none 0 0)
            have hb := st10_blk HKx26.out (.int .i64 ra) (.int .i64 rc) (.int .i64 0) (.int .i64 0) (.bool false) (.int .i64 0) (.int .i64 0) (.int .u64 0) (.string ⟨#[]⟩) (.slice none 0 0)
            have hB := ((Kept.of' (N := N1 xb23) HBz26.out).trans hk).below (Nat.le_refl _) (fun z hz e => by have := HLx.out; unfold N1 at e; omega)
            refine hK.out _ _ hB (fun _ => ?_)
            clear hK K
            try simp only [Act.put, List.setIfInBounds_toArray, List.set_cons_zero, List.set_cons_succ]
            change wpAnyL _ _ _ _ _ _ _ _ (st10 wz26 xb23 (.int .i64 ra) (.int .i64 rc) (.int .i64 0) (.int .i64 0) (.bool false) (.int .i64 0) (.int .i64 0) (.int .u64 0) (.string ⟨#[]⟩) (.slice none 0 0))
            have HYk := Lib.hid (HKy26.out.keep hk (fun e => by have := HXY.out; unfold N1 at e; omega))
            generalize st10 wz26 xb23 (.int .i64 ra) (.int .i64 rc) (.int .i64 0) (.int .i64 0) (.bool false) (.int .i64 0) (.int .i64 0) (.int .u64 0) (.string ⟨#[]⟩) (.slice none 0 0) = wS at *
            have HXk := Lib.hid hb
            have HBS := Lib.hid hB
            clear hk hb hB HKx26 HKy26 HBz26
            have c0 := HYk.out.cell 0 rfl; have f0 := HYk.out.free 0 (by simp [Z10])
            have c1 := HYk.out.cell 1 rfl; have f1 := HYk.out.free 1 (by simp [Z10])
            have c2 := HYk.out.cell 2 rfl; have f2 := HYk.out.free 2 (by simp [Z10])
            have c3 := HYk.out.cell 3 rfl; have f3 := HYk.out.free 3 (by simp [Z10])
            have c4 := HYk.out.cell 4 rfl; have f4 := HYk.out.free 4 (by simp [Z10])
            have c5 := HYk.out.cell 5 rfl; have f5 := HYk.out.free 5 (by simp [Z10])
            have c6 := HYk.out.cell 6 rfl; have f6 := HYk.out.free 6 (by simp [Z10])
            have c7 := HYk.out.cell 7 rfl; have f7 := HYk.out.free 7 (by simp [Z10])
            have c8 := HYk.out.cell 8 rfl; have f8 := HYk.out.free 8 (by simp [Z10])
            have c9 := HYk.out.cell 9 rfl; have f9 := HYk.out.free 9 (by simp [Z10])
            refine lastL (i := 7) (by kernel_rfl) rfl (by kernel_rfl) (by kernel_rfl) (fun K hK => ?_)
            go_simp
            clear c0 f0 c1 f1 c2 f2 c3 f3 c4 f4 c5 f5 c6 f6 c7 f7 c8 f8 c9 f9
            refine hK.out _ _ ?_
            clear hK K
            try simp only [Act.put, List.setIfInBounds_toArray, List.set_cons_zero, List.set_cons_succ]
            change Exit.then _ _ _ _ (st10 wS yb26 (.int .i64 ra) (.int .i64 rc) (.int .i64 0) (.int .i64 0) (.bool false) (.int .i64 0) (.int .i64 0) (.int .u64 0) (.string ⟨#[]⟩) (.slice none 0 0))
            have hk := st10_kept (w := wS) (b := yb26) (.int .i64 ra) (.int .i64 rc) (.int .i64 0) (.int .i64 0) (.bool false) (.int .i64 0) (.int .i64 0) (.int .u64 0) (.string ⟨#[]⟩) (.slice none 0 0)
            have hb := st10_blk HYk.out (.int .i64 ra) (.int .i64 rc) (.int .i64 0) (.int .i64 0) (.bool false) (.int .i64 0) (.int .i64 0) (.int .u64 0) (.string ⟨#[]⟩) (.slice none 0 0)
            have hB := ((Kept.of' (N := N1 yb26) HBS.out).trans hk).below (Nat.le_refl _) (fun z hz e => by have := HLy.out; unfold N1 at e; omega)
            have HXE := Lib.hid (HXk.out.keep hk (fun e => by have := HXY.out; unfold N1 at e; omega))
            generalize st10 wS yb26 (.int .i64 ra) (.int .i64 rc) (.int .i64 0) (.int .i64 0) (.bool false) (.int .i64 0) (.int .i64 0) (.int .u64 0) (.string ⟨#[]⟩) (.slice none 0 0) = wE at *
            have HYE := Lib.hid hb
            have HBE := Lib.hid hB
            clear hk hb hB HBS HXk HYk
            obtain ⟨⟨x0, x1, x2, x3, x4, x5, x6, x7, x8, x9, x10⟩, ⟨y0, y1, y2, y3, y4, y5, y6, y7, y8, y9, y10⟩⟩ := HSW.out _ HBE.out
            have c0 := HXE.out.cell 0 rfl; have d0 := HYE.out.cell 0 rfl
            have c1 := HXE.out.cell 1 rfl; have d1 := HYE.out.cell 1 rfl
            have c2 := HXE.out.cell 2 rfl; have d2 := HYE.out.cell 2 rfl
            have c3 := HXE.out.cell 3 rfl; have d3 := HYE.out.cell 3 rfl
            have c4 := HXE.out.cell 4 rfl; have d4 := HYE.out.cell 4 rfl
            have c5 := HXE.out.cell 5 rfl; have d5 := HYE.out.cell 5 rfl
            have c6 := HXE.out.cell 6 rfl; have d6 := HYE.out.cell 6 rfl
            have c7 := HXE.out.cell 7 rfl; have d7 := HYE.out.cell 7 rfl
            have c8 := HXE.out.cell 8 rfl; have d8 := HYE.out.cell 8 rfl
            have c9 := HXE.out.cell 9 rfl; have d9 := HYE.out.cell 9 rfl
            go_wp2_with (first
              | (go_at_call 15; (with_reducible refine (HC15.out _ HBE.out).mono ?_); rintro r9 w17 ⟨rfl, hB⟩; have HB17 := Lib.hid (bel_tr HBE.out hB); clear hB)
              | (go_at_call 11; (with_reducible refine (HW.out _).mono ?_); rintro r9 w18 ⟨rfl, hB⟩; have HB18 := Lib.hid (bel_tr HB17.out hB); clear hB))
            go_ret
            exact ⟨rfl, HB4.out.trans (HB18.out.mono HB4.out.size)⟩
          · skip
            go_simp
            refine hK.out _ _ (bel_al2 HBz24.out) (fun _ => ?_)
            clear hK K
            try simp only [Act.put, List.setIfInBounds_toArray, List.set_cons_zero, List.set_cons_succ]
            change wpAnyL _ _ _ _ _ _ _ _ (zres wz24)
            have hA := zres_blk wz24
            have hB := zres_below wz24
            generalize zres wz24 = wz28 at *
            obtain ⟨yb28, hyb28⟩ : ∃ x, x = wz24.heap.size := ⟨_, rfl⟩
            rw [← hyb28] at hA
            rw [← hyb28]
            have HBz28 := Lib.hid (bel_tr HBz24.out hB)
            have HKx28 := Lib.hid (HKx24.out.below hB)
            have HXY := Lib.hid (show xb23 ≠ yb28 from by have := HKx24.out.1; omega)
            have HLy := Lib.hid (show w4.heap.size ≤ yb28 from by rw [hyb28]; exact HBz24.out.size)
            have HKy28 := Lib.hid hA
            clear HBz24 hA hB hyb28 HKx24
            refine oneL (i := 3) (by kernel_rfl) rfl (fun K hK => ?_)
            (go_simp; go_at_call 31; (with_reducible refine (HC31.out _ HBz28.out).mono ?_); rintro r29 wz29 ⟨rfl, hB⟩; have HBz29 := Lib.hid (bel_tr HBz28.out hB); have HKx29 := Lib.hid (HKx28.out.below hB); have HKy29 := Lib.hid (HKy28.out.below hB); clear hB)
            refine hK.out _ _ HBz29.out (fun _ => ?_)
            clear hK K HBz28 HKx28 HKy28
            try simp only [Act.put, List.setIfInBounds_toArray, List.set_cons_zero, List.set_cons_succ]
            have c0 := HKx29.out.cell 0 rfl; have f0 := HKx29.out.free 0 (by simp [Z10])
            have c1 := HKx29.out.cell 1 rfl; have f1 := HKx29.out.free 1 (by simp [Z10])
            have c2 := HKx29.out.cell 2 rfl; have f2 := HKx29.out.free 2 (by simp [Z10])
            have c3 := HKx29.out.cell 3 rfl; have f3 := HKx29.out.free 3 (by simp [Z10])
            have c4 := HKx29.out.cell 4 rfl; have f4 := HKx29.out.free 4 (by simp [Z10])
            have c5 := HKx29.out.cell 5 rfl; have f5 := HKx29.out.free 5 (by simp [Z10])
            have c6 := HKx29.out.cell 6 rfl; have f6 := HKx29.out.free 6 (by simp [Z10])
            have c7 := HKx29.out.cell 7 rfl; have f7 := HKx29.out.free 7 (by simp [Z10])
            have c8 := HKx29.out.cell 8 rfl; have f8 := HKx29.out.free 8 (by simp [Z10])
            have c9 := HKx29.out.cell 9 rfl; have f9 := HKx29.out.free 9 (by simp [Z10])
            refine oneL (i := 6) (by kernel_rfl) rfl (fun K hK => ?_)
            go_simp
            clear c0 f0 c1 f1 c2 f2 c3 f3 c4 f4 c5 f5 c6 f6 c7 f7 c8 f8 c9 f9
            have hk := st10_kept (w := wz29) (b := xb23) (.int .i64 ra) (.int .i64 rc) (.int .i64 0) (.int .i64 0) (.bool false) (.int .i64 0) (.int .i64 0) (.int .u64 0) (.string ⟨#[]⟩) (.slice none 0 0)
            have hb := st10_blk HKx29.out (.int .i64 ra) (.int .i64 rc) (.int .i64 0) (.int .i64 0) (.bool false) (.int .i64 0) (.int .i64 0) (.int .u64 0) (.string ⟨#[]⟩) (.slice none 0 0)
            have hB := ((Kept.of' (N := N1 xb23) HBz29.out).trans hk).below (Nat.le_refl _) (fun z hz e => by have := HLx.out; unfold N1 at e; omega)
            refine hK.out _ _ hB (fun _ => ?_)
            clear hK K
            try simp only [Act.put, List.setIfInBounds_toArray, List.set_cons_zero, List.set_cons_succ]
            change wpAnyL _ _ _ _ _ _ _ _ (st10 wz29 xb23 (.int .i64 ra) (.int .i64 rc) (.int .i64 0) (.int .i64 0) (.bool false) (.int .i64 0) (.int .i64 0) (.int .u64 0) (.string ⟨#[]⟩) (.slice none 0 0))
            have HYk := Lib.hid (HKy29.out.keep hk (fun e => by have := HXY.out; unfold N1 at e; omega))
            generalize st10 wz29 xb23 (.int .i64 ra) (.int .i64 rc) (.int .i64 0) (.int .i64 0) (.bool false) (.int .i64 0) (.int .i64 0) (.int .u64 0) (.string ⟨#[]⟩) (.slice none 0 0) = wS at *
            have HXk := Lib.hid hb
            have HBS := Lib.hid hB
            clear hk hb hB HKx29 HKy29 HBz29
            have c0 := HYk.out.cell 0 rfl; have f0 := HYk.out.free 0 (by simp [Z10])
            have c1 := HYk.out.cell 1 rfl; have f1 := HYk.out.free 1 (by simp [Z10])
            have c2 := HYk.out.cell 2 rfl; have f2 := HYk.out.free 2 (by simp [Z10])
            have c3 := HYk.out.cell 3 rfl; have f3 := HYk.out.free 3 (by simp [Z10])
            have c4 := HYk.out.cell 4 rfl; have f4 := HYk.out.free 4 (by simp [Z10])
            have c5 := HYk.out.cell 5 rfl; have f5 := HYk.out.free 5 (by simp [Z10])
            have c6 := HYk.out.cell 6 rfl; have f6 := HYk.out.free 6 (by simp [Z10])
            have c7 := HYk.out.cell 7 rfl; have f7 := HYk.out.free 7 (by simp [Z10])
            have c8 := HYk.out.cell 8 rfl; have f8 := HYk.out.free 8 (by simp [Z10])
            have c9 := HYk.out.cell 9 rfl; have f9 := HYk.out.free 9 (by simp [Z10])
            refine lastL (i := 7) (by kernel_rfl) rfl (by kernel_rfl) (by kernel_rfl) (fun K hK => ?_)
            go_simp
            clear c0 f0 c1 f1 c2 f2 c3 f3 c4 f4 c5 f5 c6 f6 c7 f7 c8 f8 c9 f9
            refine hK.out _ _ ?_
            clear hK K
            try simp only [Act.put, List.setIfInBounds_toArray, List.set_cons_zero, List.set_cons_succ]
            change Exit.then _ _ _ _ (st10 wS yb28 (.int .i64 ra) (.int .i64 rc) (.int .i64 0) (.int .i64 0) (.bool false) (.int .i64 0) (.int .i64 0) (.int .u64 0) (.string ⟨#[]⟩) (.slice none 0 0))
            have hk := st10_kept (w := wS) (b := yb28) (.int .i64 ra) (.int .i64 rc) (.int .i64 0) (.int .i64 0) (.bool false) (.int .i64 0) (.int .i64 0) (.int .u64 0) (.string ⟨#[]⟩) (.slice none 0 0)
            have hb := st10_blk HYk.out (.int .i64 ra) (.int .i64 rc) (.int .i64 0) (.int .i64 0) (.bool false) (.int .i64 0) (.int .i64 0) (.int .u64 0) (.string ⟨#[]⟩) (.slice none 0 0)
            have hB := ((Kept.of' (N := N1 yb28) HBS.out).trans hk).below (Nat.le_refl _) (fun z hz e => by have := HLy.out; unfold N1 at e; omega)
            have HXE := Lib.hid (HXk.out.keep hk (fun e => by have := HXY.out; unfold N1 at e; omega))
            generalize st10 wS yb28 (.int .i64 ra) (.int .i64 rc) (.int .i64 0) (.int .i64 0) (.bool false) (.int .i64 0) (.int .i64 0) (.int .u64 0) (.string ⟨#[]⟩) (.slice none 0 0) = wE at *
            have HYE := Lib.hid hb
            have HBE := Lib.hid hB
            clear hk hb hB HBS HXk HYk
            obtain ⟨⟨x0, x1, x2, x3, x4, x5, x6, x7, x8, x9, x10⟩, ⟨y0, y1, y2, y3, y4, y5, y6, y7, y8, y9, y10⟩⟩ := HSW.out _ HBE.out
            have c0 := HXE.out.cell 0 rfl; have d0 := HYE.out.cell 0 rfl
            have c1 := HXE.out.cell 1 rfl; have d1 := HYE.out.cell 1 rfl
            have c2 := HXE.out.cell 2 rfl; have d2 := HYE.out.cell 2 rfl
            have c3 := HXE.out.cell 3 rfl; have d3 := HYE.out.cell 3 rfl
            have c4 := HXE.out.cell 4 rfl; have d4 := HYE.out.cell 4 rfl
            have c5 := HXE.out.cell 5 rfl; have d5 := HYE.out.cell 5 rfl
            have c6 := HXE.out.cell 6 rfl; have d6 := HYE.out.cell 6 rfl
            have c7 := HXE.out.cell 7 rfl; have d7 := HYE.out.cell 7 rfl
            have c8 := HXE.out.cell 8 rfl; have d8 := HYE.out.cell 8 rfl
            have c9 := HXE.out.cell 9 rfl; have d9 := HYE.out.cell 9 rfl
            go_wp2_with (first
              | (go_at_call 15; (with_reducible refine (HC15.out _ HBE.out).mono ?_); rintro r9 w17 ⟨rfl, hB⟩; have HB17 := Lib.hid (bel_tr HBE.out hB); clear hB)
              | (go_at_call 11; (with_reducible refine (HW.out _).mono ?_); rintro r9 w18 ⟨rfl, hB⟩; have HB18 := Lib.hid (bel_tr HB17.out hB); clear hB))
            go_ret
            exact ⟨rfl, HB4.out.trans (HB18.out.mono HB4.out.size)⟩
        · skip
          go_simp
          refine hK.out _ _ (bel_al2 HBz23.out) (fun _ => ?_)
          clear hK K
          try simp only [Act.put, List.setIfInBounds_toArray, List.set_cons_zero, List.set_cons_succ]
          change wpAnyL _ _ _ _ _ _ _ _ (zres wz23)
          have hA := zres_blk wz23
          have hB := zres_below wz23
          generalize zres wz23 = wz31 at *
          obtain ⟨yb31, hyb31⟩ : ∃ x, x = wz23.heap.size := ⟨_, rfl⟩
          rw [← hyb31] at hA
          rw [← hyb31]
          have HBz31 := Lib.hid (bel_tr HBz23.out hB)
          have HKx31 := Lib.hid (HKx23.out.below hB)
          have HXY := Lib.hid (show xb23 ≠ yb31 from by have := HKx23.out.1; omega)
          have HLy := Lib.hid (show w4.heap.size ≤ yb31 from by rw [hyb31]; exact HBz23.out.size)
          have HKy31 := Lib.hid hA
          clear HBz23 hA hB hyb31 HKx23
          refine oneL (i := 1) (by kernel_rfl) rfl (fun K hK => ?_)
          (go_simp; go_at_call 30; (with_reducible refine (HC30.out _ HBz31.out).mono ?_); rintro r32 wz32 ⟨rfl, hB⟩; have HBz32 := Lib.hid (bel_tr HBz31.out hB); have HKx32 := Lib.hid (HKx31.out.below hB); have HKy32 := Lib.hid (HKy31.out.below hB); clear hB)
          refine hK.out _ _ HBz32.out (fun _ => ?_)
          clear hK K HBz31 HKx31 HKy31
          try simp only [Act.put, List.setIfInBounds_toArray, List.set_cons_zero, List.set_cons_succ]
          refine oneL (i := 3) (by kernel_rfl) rfl (fun K hK => ?_)
          (go_simp; go_at_call 31; (with_reducible refine (HC31.out _ HBz32.out).mono ?_); rintro r33 wz33 ⟨rfl, hB⟩; have HBz33 := Lib.hid (bel_tr HBz32.out hB); have HKx33 := Lib.hid (HKx32.out.below hB); have HKy33 := Lib.hid (HKy32.out.below hB); clear hB)
          refine hK.out _ _ HBz33.out (fun _ => ?_)
          clear hK K HBz32 HKx32 HKy32
          try simp only [Act.put, List.setIfInBounds_toArray, List.set_cons_zero, List.set_cons_succ]
          have c0 := HKx33.out.cell 0 rfl; have f0 := HKx33.out.free 0 (by simp [Z10])
          have c1 := HKx33.out.cell 1 rfl; have f1 := HKx33.out.free 1 (by simp [Z10])
          have c2 := HKx33.out.cell 2 rfl; have f2 := HKx33.out.free 2 (by simp [Z10])
          have c3 := HKx33.out.cell 3 rfl; have f3 := HKx33.out.free 3 (by simp [Z10])
          have c4 := HKx33.out.cell 4 rfl; have f4 := HKx33.out.free 4 (by simp [Z10])
          have c5 := HKx33.out.cell 5 rfl; have f5 := HKx33.out.free 5 (by simp [Z10])
          have c6 := HKx33.out.cell 6 rfl; have f6 := HKx33.out.free 6 (by simp [Z10])
          have c7 := HKx33.out.cell 7 rfl; have f7 := HKx33.out.free 7 (by simp [Z10])
          have c8 := HKx33.out.cell 8 rfl; have f8 := HKx33.out.free 8 (by simp [Z10])
          have c9 := HKx33.out.cell 9 rfl; have f9 := HKx33.out.free 9 (by simp [Z10])
          refine oneL (i := 6) (by kernel_rfl) rfl (fun K hK => ?_)
          go_simp
          clear c0 f0 c1 f1 c2 f2 c3 f3 c4 f4 c5 f5 c6 f6 c7 f7 c8 f8 c9 f9
          have hk := st10_kept (w := wz33) (b := xb23) (.int .i64 ra) (.int .i64 rc) (.int .i64 0) (.int .i64 0) (.bool false) (.int .i64 0) (.int .i64 0) (.int .u64 0) (.string ⟨#[]⟩) (.slice none 0 0)
          have hb := st10_blk HKx33.out (.int .i64 ra) (.int .i64 rc) (.int .i64 0) (.int .i64 0) (.bool false) (.int .i64 0) (.int .i64 0) (.int .u64 0) (.string ⟨#[]⟩) (.slice none 0 0)
          have hB := ((Kept.of' (N := N1 xb23) HBz33.out).trans hk).below (Nat.le_refl _) (fun z hz e => by have := HLx.out; unfold N1 at e; omega)
          refine hK.out _ _ hB (fun _ => ?_)
          clear hK K
          try simp only [Act.put, List.setIfInBounds_toArray, List.set_cons_zero, List.set_cons_succ]
          change wpAnyL _ _ _ _ _ _ _ _ (st10 wz33 xb23 (.int .i64 ra) (.int .i64 rc) (.int .i64 0) (.int .i64 0) (.bool false) (.int .i64 0) (.int .i64 0) (.int .u64 0) (.string ⟨#[]⟩) (.slice none 0 0))
          have HYk := Lib.hid (HKy33.out.keep hk (fun e => by have := HXY.out; unfold N1 at e; omega))
          generalize st10 wz33 xb23 (.int .i64 ra) (.int .i64 rc) (.int .i64 0) (.int .i64 0) (.bool false) (.int .i64 0) (.int .i64 0) (.int .u64 0) (.string ⟨#[]⟩) (.slice none 0 0) = wS at *
          have HXk := Lib.hid hb
          have HBS := Lib.hid hB
          clear hk hb hB HKx33 HKy33 HBz33
          have c0 := HYk.out.cell 0 rfl; have f0 := HYk.out.free 0 (by simp [Z10])
          have c1 := HYk.out.cell 1 rfl; have f1 := HYk.out.free 1 (by simp [Z10])
          have c2 := HYk.out.cell 2 rfl; have f2 := HYk.out.free 2 (by simp [Z10])
          have c3 := HYk.out.cell 3 rfl; have f3 := HYk.out.free 3 (by simp [Z10])
          have c4 := HYk.out.cell 4 rfl; have f4 := HYk.out.free 4 (by simp [Z10])
          have c5 := HYk.out.cell 5 rfl; have f5 := HYk.out.free 5 (by simp [Z10])
          have c6 := HYk.out.cell 6 rfl; have f6 := HYk.out.free 6 (by simp [Z10])
          have c7 := HYk.out.cell 7 rfl; have f7 := HYk.out.free 7 (by simp [Z10])
          have c8 := HYk.out.cell 8 rfl; have f8 := HYk.out.free 8 (by simp [Z10])
          have c9 := HYk.out.cell 9 rfl; have f9 := HYk.out.free 9 (by simp [Z10])
          refine lastL (i := 7) (by kernel_rfl) rfl (by kernel_rfl) (by kernel_rfl) (fun K hK => ?_)
          go_simp
          clear c0 f0 c1 f1 c2 f2 c3 f3 c4 f4 c5 f5 c6 f6 c7 f7 c8 f8 c9 f9
          refine hK.out _ _ ?_
          clear hK K
          try simp only [Act.put, List.setIfInBounds_toArray, List.set_cons_zero, List.set_cons_succ]
          change Exit.then _ _ _ _ (st10 wS yb31 (.int .i64 ra) (.int .i64 rc) (.int .i64 0) (.int .i64 0) (.bool false) (.int .i64 0) (.int .i64 0) (.int .u64 0) (.string ⟨#[]⟩) (.slice none 0 0))
          have hk := st10_kept (w := wS) (b := yb31) (.int .i64 ra) (.int .i64 rc) (.int .i64 0) (.int .i64 0) (.bool false) (.int .i64 0) (.int .i64 0) (.int .u64 0) (.string ⟨#[]⟩) (.slice none 0 0)
          have hb := st10_blk HYk.out (.int .i64 ra) (.int .i64 rc) (.int .i64 0) (.int .i64 0) (.bool false) (.int .i64 0) (.int .i64 0) (.int .u64 0) (.string ⟨#[]⟩) (.slice none 0 0)
          have hB := ((Kept.of' (N := N1 yb31) HBS.out).trans hk).below (Nat.le_refl _) (fun z hz e => by have := HLy.out; unfold N1 at e; omega)
          have HXE := Lib.hid (HXk.out.keep hk (fun e => by have := HXY.out; unfold N1 at e; omega))
          generalize st10 wS yb31 (.int .i64 ra) (.int .i64 rc) (.int .i64 0) (.int .i64 0) (.bool false) (.int .i64 0) (.int .i64 0) (.int .u64 0) (.string ⟨#[]⟩) (.slice none 0 0) = wE at *
          have HYE := Lib.hid hb
          have HBE := Lib.hid hB
          clear hk hb hB HBS HXk HYk
          obtain ⟨⟨x0, x1, x2, x3, x4, x5, x6, x7, x8, x9, x10⟩, ⟨y0, y1, y2, y3, y4, y5, y6, y7, y8, y9, y10⟩⟩ := HSW.out _ HBE.out
          have c0 := HXE.out.cell 0 rfl; have d0 := HYE.out.cell 0 rfl
          have c1 := HXE.out.cell 1 rfl; have d1 := HYE.out.cell 1 rfl
          have c2 := HXE.out.cell 2 rfl; have d2 := HYE.out.cell 2 rfl
          have c3 := HXE.out.cell 3 rfl; have d3 := HYE.out.cell 3 rfl
          have c4 := HXE.out.cell 4 rfl; have d4 := HYE.out.cell 4 rfl
          have c5 := HXE.out.cell 5 rfl; have d5 := HYE.out.cell 5 rfl
          have c6 := HXE.out.cell 6 rfl; have d6 := HYE.out.cell 6 rfl
          have c7 := HXE.out.cell 7 rfl; have d7 := HYE.out.cell 7 rfl
          have c8 := HXE.out.cell 8 rfl; have d8 := HYE.out.cell 8 rfl
          have c9 := HXE.out.cell 9 rfl; have d9 := HYE.out.cell 9 rfl
          go_wp2_with (first
            | (go_at_call 15; (with_reducible refine (HC15.out _ HBE.out).mono ?_); rintro r9 w17 ⟨rfl, hB⟩; have HB17 := Lib.hid (bel_tr HBE.out hB); clear hB)
            | (go_at_call 11; (with_reducible refine (HW.out _).mono ?_); rintro r9 w18 ⟨rfl, hB⟩; have HB18 := Lib.hid (bel_tr HB17.out hB); clear hB))
          go_ret
          exact ⟨rfl, HB4.out.trans (HB18.out.mono HB4.out.size)⟩
      · skip
        go_simp
        refine hK.out _ _ (bel_al2 HBD.out) (fun _ => ?_)
        clear hK K
        try simp only [Act.put, List.setIfInBounds_toArray, List.set_cons_zero, List.set_cons_succ]
        change wpAnyL _ _ _ _ _ _ _ _ (zres wd)
        have hA := zres_blk wd
        have hB := zres_below wd
        generalize zres wd = wz35 at *
        obtain ⟨yb35, hyb35⟩ : ∃ x, x = wd.heap.size := ⟨_, rfl⟩
        rw [← hyb35] at hA
        rw [← hyb35]
        have HBz35 := Lib.hid (bel_tr HBD.out hB)
        have HLy := Lib.hid (show w4.heap.size ≤ yb35 from by rw [hyb35]; exact HBD.out.size)
        have HKy35 := Lib.hid hA
        clear HBD hA hB hyb35
        refine manyL (rs := [1, 4]) (by kernel_rfl) (by simp) (two_of rfl rfl (fun K hK => ?_) (fun K hK => ?_))
        · skip
          (go_simp; go_at_call 30; (with_reducible refine (HC30.out _ HBz35.out).mono ?_); rintro r36 wz36 ⟨rfl, hB⟩; have HBz36 := Lib.hid (bel_tr HBz35.out hB); have HKy36 := Lib.hid (HKy35.out.below hB); clear hB)
          refine hK.out _ _ HBz36.out (fun _ => ?_)
          clear hK K HBz35 HKy35
          try simp only [Act.put, List.setIfInBounds_toArray, List.set_cons_zero, List.set_cons_succ]
          refine manyL (rs := [3, 4]) (by kernel_rfl) (by simp) (two_of rfl rfl (fun K hK => ?_) (fun K hK => ?_))
          · skip
            (go_simp; go_at_call 31; (with_reducible refine (HC31.out _ HBz36.out).mono ?_); rintro r37 wz37 ⟨rfl, hB⟩; have HBz37 := Lib.hid (bel_tr HBz36.out hB); have HKy37 := Lib.hid (HKy36.out.below hB); clear hB)
            refine hK.out _ _ HBz37.out (fun _ => ?_)
            clear hK K HBz36 HKy36
            try simp only [Act.put, List.setIfInBounds_toArray, List.set_cons_zero, List.set_cons_succ]
            refine oneL (i := 4) (by kernel_rfl) rfl (fun K hK => ?_)
            go_simp
            refine hK.out _ _ (bel_al2 HBz37.out) (fun _ => ?_)
            clear hK K
            try simp only [Act.put, List.setIfInBounds_toArray, List.set_cons_zero, List.set_cons_succ]
            change wpAnyL _ _ _ _ _ _ _ _ (zres wz37)
            have hA := zres_blk wz37
            have hB := zres_below wz37
            generalize zres wz37 = wz38 at *
            obtain ⟨xb38, hxb38⟩ : ∃ x, x = wz37.heap.size := ⟨_, rfl⟩
            rw [← hxb38] at hA
            rw [← hxb38]
            have HBz38 := Lib.hid (bel_tr HBz37.out hB)
            have HKy38 := Lib.hid (HKy37.out.below hB)
            have HXY := Lib.hid (show yb35 ≠ xb38 from by have := HKy37.out.1; omega)
            have HLx := Lib.hid (show w4.heap.size ≤ xb38 from by rw [hxb38]; exact HBz37.out.size)
            have HKx38 := Lib.hid hA
            clear HBz37 hA hB hxb38 HKy37
            have c0 := HKx38.out.cell 0 rfl; have f0 := HKx38.out.free 0 (by simp [Z10])
            have c1 := HKx38.out.cell 1 rfl; have f1 := HKx38.out.free 1 (by simp [Z10])
            have c2 := HKx38.out.cell 2 rfl; have f2 := HKx38.out.free 2 (by simp [Z10])
            have c3 := HKx38.out.cell 3 rfl; have f3 := HKx38.out.free 3 (by simp [Z10])
            have c4 := HKx38.out.cell 4 rfl; have f4 := HKx38.out.free 4 (by simp [Z10])
            have c5 := HKx38.out.cell 5 rfl; have f5 := HKx38.out.free 5 (by simp [Z10])
            have c6 := HKx38.out.cell 6 rfl; have f6 := HKx38.out.free 6 (by simp [Z10])
            have c7 := HKx38.out.cell 7 rfl; have f7 := HKx38.out.free 7 (by simp [Z10])
            have c8 := HKx38.out.cell 8 rfl; have f8 := HKx38.out.free 8 (by simp [Z10])
            have c9 := HKx38.out.cell 9 rfl; have f9 := HKx38.out.free 9 (by simp [Z10])
            refine oneL (i := 6) (by kernel_rfl) rfl (fun K hK => ?_)
            go_simp
            clear c0 f0 c1 f1 c2 f2 c3 f3 c4 f4 c5 f5 c6 f6 c7 f7 c8 f8 c9 f9
            have hk := st10_kept (w := wz38) (b := xb38) (.int .i64 ra) (.int .i64 rc) (.int .i64 0) (.int .i64 0) (.bool false) (.int .i64 0) (.int .i64 0) (.int .u64 0) (.string ⟨#[]⟩) (.slice none 0 0)
            have hb := st10_blk HKx38.out (.int .i64 ra) (.int .i64 rc) (.int .i64 0) (.int .i64 0) (.bool false) (.int .i64 0) (.int .i64 0) (.int .u64 0) (.string ⟨#[]⟩) (.slice none 0 0)
            have hB := ((Kept.of' (N := N1 xb38) HBz38.out).trans hk).below (Nat.le_refl _) (fun z hz e => by have := HLx.out; unfold N1 at e; omega)
            refine hK.out _ _ hB (fun _ => ?_)
            clear hK K
            try simp only [Act.put, List.setIfInBounds_toArray, List.set_cons_zero, List.set_cons_succ]
            change wpAnyL _ _ _ _ _ _ _ _ (st10 wz38 xb38 (.int .i64 ra) (.int .i64 rc) (.int .i64 0) (.int .i64 0) (.bool false) (.int .i64 0) (.int .i64 0) (.int .u64 0) (.string ⟨#[]⟩) (.slice none 0 0))
            have HYk := Lib.hid (HKy38.out.keep hk (fun e => by have := HXY.out; unfold N1 at e; omega))
            generalize st10 wz38 xb38 (.int .i64 ra) (.int .i64 rc) (.int .i64 0) (.int .i64 0) (.bool false) (.int .i64 0) (.int .i64 0) (.int .u64 0) (.string ⟨#[]⟩) (.slice none 0 0) = wS at *
            have HXk := Lib.hid hb
            have HBS := Lib.hid hB
            clear hk hb hB HKx38 HKy38 HBz38
            have c0 := HYk.out.cell 0 rfl; have f0 := HYk.out.free 0 (by simp [Z10])
            have c1 := HYk.out.cell 1 rfl; have f1 := HYk.out.free 1 (by simp [Z10])
            have c2 := HYk.out.cell 2 rfl; have f2 := HYk.out.free 2 (by simp [Z10])
            have c3 := HYk.out.cell 3 rfl; have f3 := HYk.out.free 3 (by simp [Z10])
            have c4 := HYk.out.cell 4 rfl; have f4 := HYk.out.free 4 (by simp [Z10])
            have c5 := HYk.out.cell 5 rfl; have f5 := HYk.out.free 5 (by simp [Z10])
            have c6 := HYk.out.cell 6 rfl; have f6 := HYk.out.free 6 (by simp [Z10])
            have c7 := HYk.out.cell 7 rfl; have f7 := HYk.out.free 7 (by simp [Z10])
            have c8 := HYk.out.cell 8 rfl; have f8 := HYk.out.free 8 (by simp [Z10])
            have c9 := HYk.out.cell 9 rfl; have f9 := HYk.out.free 9 (by simp [Z10])
            refine lastL (i := 7) (by kernel_rfl) rfl (by kernel_rfl) (by kernel_rfl) (fun K hK => ?_)
            go_simp
            clear c0 f0 c1 f1 c2 f2 c3 f3 c4 f4 c5 f5 c6 f6 c7 f7 c8 f8 c9 f9
            refine hK.out _ _ ?_
            clear hK K
            try simp only [Act.put, List.setIfInBounds_toArray, List.set_cons_zero, List.set_cons_succ]
            change Exit.then _ _ _ _ (st10 wS yb35 (.int .i64 ra) (.int .i64 rc) (.int .i64 0) (.int .i64 0) (.bool false) (.int .i64 0) (.int .i64 0) (.int .u64 0) (.string ⟨#[]⟩) (.slice none 0 0))
            have hk := st10_kept (w := wS) (b := yb35) (.int .i64 ra) (.int .i64 rc) (.int .i64 0) (.int .i64 0) (.bool false) (.int .i64 0) (.int .i64 0) (.int .u64 0) (.string ⟨#[]⟩) (.slice none 0 0)
            have hb := st10_blk HYk.out (.int .i64 ra) (.int .i64 rc) (.int .i64 0) (.int .i64 0) (.bool false) (.int .i64 0) (.int .i64 0) (.int .u64 0) (.string ⟨#[]⟩) (.slice none 0 0)
            have hB := ((Kept.of' (N := N1 yb35) HBS.out).trans hk).below (Nat.le_refl _) (fun z hz e => by have := HLy.out; unfold N1 at e; omega)
            have HXE := Lib.hid (HXk.out.keep hk (fun e => by have := HXY.out; unfold N1 at e; omega))
            generalize st10 wS yb35 (.int .i64 ra) (.int .i64 rc) (.int .i64 0) (.int .i64 0) (.bool false) (.int .i64 0) (.int .i64 0) (.int .u64 0) (.string ⟨#[]⟩) (.slice none 0 0) = wE at *
            have HYE := Lib.hid hb
            have HBE := Lib.hid hB
            clear hk hb hB HBS HXk HYk
            obtain ⟨⟨x0, x1, x2, x3, x4, x5, x6, x7, x8, x9, x10⟩, ⟨y0, y1, y2, y3, y4, y5, y6, y7, y8, y9, y10⟩⟩ := HSW.out _ HBE.out
            have c0 := HXE.out.cell 0 rfl; have d0 := HYE.out.cell 0 rfl
            have c1 := HXE.out.cell 1 rfl; have d1 := HYE.out.cell 1 rfl
            have c2 := HXE.out.cell 2 rfl; have d2 := HYE.out.cell 2 rfl
            have c3 := HXE.out.cell 3 rfl; have d3 := HYE.out.cell 3 rfl
            have c4 := HXE.out.cell 4 rfl; have d4 := HYE.out.cell 4 rfl
            have c5 := HXE.out.cell 5 rfl; have d5 := HYE.out.cell 5 rfl
            have c6 := HXE.out.cell 6 rfl; have d6 := HYE.out.cell 6 rfl
            have c7 := HXE.out.cell 7 rfl; have d7 := HYE.out.cell 7 rfl
            have c8 := HXE.out.cell 8 rfl; have d8 := HYE.out.cell 8 rfl
            have c9 := HXE.out.cell 9 rfl; have d9 := HYE.out.cell 9 rfl
            go_wp2_with (first
              | (go_at_call 15; (with_reducible refine (HC15.out _ HBE.out).mono ?_); rintro r9 w17 ⟨rfl, hB⟩; have HB17 := Lib.hid (bel_tr HBE.out hB); clear hB)
              | (go_at_call 11; (with_reducible refine (HW.out _).mono ?_); rintro r9 w18 ⟨rfl, hB⟩; have HB18 := Lib.hid (bel_tr HB17.out hB); clear hB))
            go_ret
            exact ⟨rfl, HB4.out.trans (HB18.out.mono HB4.out.size)⟩
          · skip
            go_simp
            refine hK.out _ _ (bel_al2 HBz36.out) (fun _ => ?_)
            clear hK K
            try simp only [Act.put, List.setIfInBounds_toArray, List.set_cons_zero, List.set_cons_succ]
            change wpAnyL _ _ _ _ _ _ _ _ (zres wz36)
            have hA := zres_blk wz36
            have hB := zres_below wz36
            generalize zres wz36 = wz40 at *
            obtain ⟨xb40, hxb40⟩ : ∃ x, x = wz36.heap.size := ⟨_, rfl⟩
            rw [← hxb40] at hA
            rw [← hxb40]
            have HBz40 := Lib.hid (bel_tr HBz36.out hB)
            have HKy40 := Lib.hid (HKy36.out.below hB)
            have HXY := Lib.hid (show yb35 ≠ xb40 from by have := HKy36.out.1; omega)
            have HLx := Lib.hid (show w4.heap.size ≤ xb40 from by rw [hxb40]; exact HBz36.out.size)
            have HKx40 := Lib.hid hA
            clear HBz36 hA hB hxb40 HKy36
            refine oneL (i := 3) (by kernel_rfl) rfl (fun K hK => ?_)
            (go_simp; go_at_call 31; (with_reducible refine (HC31.out _ HBz40.out).mono ?_); rintro r41 wz41 ⟨rfl, hB⟩; have HBz41 := Lib.hid (bel_tr HBz40.out hB); have HKy41 := Lib.hid (HKy40.out.below hB); have HKx41 := Lib.hid (HKx40.out.below hB); clear hB)
            refine hK.out _ _ HBz41.out (fun _ => ?_)
            clear hK K HBz40 HKy40 HKx40
            try simp only [Act.put, List.setIfInBounds_toArray, List.set_cons_zero, List.set_cons_succ]
            have c0 := HKx41.out.cell 0 rfl; have f0 := HKx41.out.free 0 (by simp [Z10])
            have c1 := HKx41.out.cell 1 rfl; have f1 := HKx41.out.free 1 (by simp [Z10])
            have c2 := HKx41.out.cell 2 rfl; have f2 := HKx41.out.free 2 (by simp [Z10])
            have c3 := HKx41.out.cell 3 rfl; have f3 := HKx41.out.free 3 (by simp [Z10])
            have c4 := HKx41.out.cell 4 rfl; have f4 := HKx41.out.free 4 (by simp [Z10])
            have c5 := HKx41.out.cell 5 rfl; have f5 := HKx41.out.free 5 (by simp [Z10])
            have c6 := HKx41.out.cell 6 rfl; have f6 := HKx41.out.free 6 (by simp [Z10])
            have c7 := HKx41.out.cell 7 rfl; have f7 := HKx41.out.free 7 (by simp [Z10])
            have c8 := HKx41.out.cell 8 rfl; have f8 := HKx41.out.free 8 (by simp [Z10])
            have c9 := HKx41.out.cell 9 rfl; have f9 := HKx41.out.free 9 (by simp [Z10])
            refine oneL (i := 6) (by kernel_rfl) rfl (fun K hK => ?_)
            go_simp
            clear c0 f0 c1 f1 c2 f2 c3 f3 c4 f4 c5 f5 c6 f6 c7 f7 c8 f8 c9 f9
            have hk := st10_kept (w := wz41) (b := xb40) (.int .i64 ra) (.int .i64 rc) (.int .i64 0) (.int .i64 0) (.bool false) (.int .i64 0) (.int .i64 0) (.int .u64 0) (.string ⟨#[]⟩) (.slice none 0 0)
            have hb := st10_blk HKx41.out (.int .i64 ra) (.int .i64 rc) (.int .i64 0) (.int .i64 0) (.bool false) (.int .i64 0) (.int .i64 0) (.int .u64 0) (.string ⟨#[]⟩) (.slice none 0 0)
            have hB := ((Kept.of' (N := N1 xb40) HBz41.out).trans hk).below (Nat.le_refl _) (fun z hz e => by have := HLx.out; unfold N1 at e; omega)
            refine hK.out _ _ hB (fun _ => ?_)
            clear hK K
            try simp only [Act.put, List.setIfInBounds_toArray, List.set_cons_zero, List.set_cons_succ]
            change wpAnyL _ _ _ _ _ _ _ _ (st10 wz41 xb40 (.int .i64 ra) (.int .i64 rc) (.int .i64 0) (.int .i64 0) (.bool false) (.int .i64 0) (.int .i64 0) (.int .u64 0) (.string ⟨#[]⟩) (.slice none 0 0))
            have HYk := Lib.hid (HKy41.out.keep hk (fun e => by have := HXY.out; unfold N1 at e; omega))
            generalize st10 wz41 xb40 (.int .i64 ra) (.int .i64 rc) (.int .i64 0) (.int .i64 0) (.bool false) (.int .i64 0) (.int .i64 0) (.int .u64 0) (.string ⟨#[]⟩) (.slice none 0 0) = wS at *
            have HXk := Lib.hid hb
            have HBS := Lib.hid hB
            clear hk hb hB HKx41 HKy41 HBz41
            have c0 := HYk.out.cell 0 rfl; have f0 := HYk.out.free 0 (by simp [Z10])
            have c1 := HYk.out.cell 1 rfl; have f1 := HYk.out.free 1 (by simp [Z10])
            have c2 := HYk.out.cell 2 rfl; have f2 := HYk.out.free 2 (by simp [Z10])
            have c3 := HYk.out.cell 3 rfl; have f3 := HYk.out.free 3 (by simp [Z10])
            have c4 := HYk.out.cell 4 rfl; have f4 := HYk.out.free 4 (by simp [Z10])
            have c5 := HYk.out.cell 5 rfl; have f5 := HYk.out.free 5 (by simp [Z10])
            have c6 := HYk.out.cell 6 rfl; have f6 := HYk.out.free 6 (by simp [Z10])
            have c7 := HYk.out.cell 7 rfl; have f7 := HYk.out.free 7 (by simp [Z10])
            have c8 := HYk.out.cell 8 rfl; have f8 := HYk.out.free 8 (by simp [Z10])
            have c9 := HYk.out.cell 9 rfl; have f9 := HYk.out.free 9 (by simp [Z10])
            refine lastL (i := 7) (by kernel_rfl) rfl (by kernel_rfl) (by kernel_rfl) (fun K hK => ?_)
            go_simp
            clear c0 f0 c1 f1 c2 f2 c3 f3 c4 f4 c5 f5 c6 f6 c7 f7 c8 f8 c9 f9
            refine hK.out _ _ ?_
            clear hK K
            try simp only [Act.put, List.setIfInBounds_toArray, List.set_cons_zero, List.set_cons_succ]
            change Exit.then _ _ _ _ (st10 wS yb35 (.int .i64 ra) (.int .i64 rc) (.int .i64 0) (.int .i64 0) (.bool false) (.int .i64 0) (.int .i64 0) (.int .u64 0) (.string ⟨#[]⟩) (.slice none 0 0))
            have hk := st10_kept (w := wS) (b := yb35) (.int .i64 ra) (.int .i64 rc) (.int .i64 0) (.int .i64 0) (.bool false) (.int .i64 0) (.int .i64 0) (.int .u64 0) (.string ⟨#[]⟩) (.slice none 0 0)
            have hb := st10_blk HYk.out (.int .i64 ra) (.int .i64 rc) (.int .i64 0) (.int .i64 0) (.bool false) (.int .i64 0) (.int .i64 0) (.int .u64 0) (.string ⟨#[]⟩) (.slice none 0 0)
            have hB := ((Kept.of' (N := N1 yb35) HBS.out).trans hk).below (Nat.le_refl _) (fun z hz e => by have := HLy.out; unfold N1 at e; omega)
            have HXE := Lib.hid (HXk.out.keep hk (fun e => by have := HXY.out; unfold N1 at e; omega))
            generalize st10 wS yb35 (.int .i64 ra) (.int .i64 rc) (.int .i64 0) (.int .i64 0) (.bool false) (.int .i64 0) (.int .i64 0) (.int .u64 0) (.string ⟨#[]⟩) (.slice none 0 0) = wE at *
            have HYE := Lib.hid hb
            have HBE := Lib.hid hB
            clear hk hb hB HBS HXk HYk
            obtain ⟨⟨x0, x1, x2, x3, x4, x5, x6, x7, x8, x9, x10⟩, ⟨y0, y1, y2, y3, y4, y5, y6, y7, y8, y9, y10⟩⟩ := HSW.out _ HBE.out
            have c0 := HXE.out.cell 0 rfl; have d0 := HYE.out.cell 0 rfl
            have c1 := HXE.out.cell 1 rfl; have d1 := HYE.out.cell 1 rfl
            have c2 := HXE.out.cell 2 rfl; have d2 := HYE.out.cell 2 rfl
            have c3 := HXE.out.cell 3 rfl; have d3 := HYE.out.cell 3 rfl
            have c4 := HXE.out.cell 4 rfl; have d4 := HYE.out.cell 4 rfl
            have c5 := HXE.out.cell 5 rfl; have d5 := HYE.out.cell 5 rfl
            have c6 := HXE.out.cell 6 rfl; have d6 := HYE.out.cell 6 rfl
            have c7 := HXE.out.cell 7 rfl; have d7 := HYE.out.cell 7 rfl
            have c8 := HXE.out.cell 8 rfl; have d8 := HYE.out.cell 8 rfl
            have c9 := HXE.out.cell 9 rfl; have d9 := HYE.out.cell 9 rfl
            go_wp2_with (first
              | (go_at_call 15; (with_reducible refine (HC15.out _ HBE.out).mono ?_); rintro r9 w17 ⟨rfl, hB⟩; have HB17 := Lib.hid (bel_tr HBE.out hB); clear hB)
              | (go_at_call 11; (with_reducible refine (HW.out _).mono ?_); rintro r9 w18 ⟨rfl, hB⟩; have HB18 := Lib.hid (bel_tr HB17.out hB); clear hB))
            go_ret
            exact ⟨rfl, HB4.out.trans (HB18.out.mono HB4.out.size)⟩
        · skip
          go_simp
          refine hK.out _ _ (bel_al2 HBz35.out) (fun _ => ?_)
          clear hK K
          try simp only [Act.put, List.setIfInBounds_toArray, List.set_cons_zero, List.set_cons_succ]
          change wpAnyL _ _ _ _ _ _ _ _ (zres wz35)
          have hA := zres_blk wz35
          have hB := zres_below wz35
          generalize zres wz35 = wz43 at *
          obtain ⟨xb43, hxb43⟩ : ∃ x, x = wz35.heap.size := ⟨_, rfl⟩
          rw [← hxb43] at hA
          rw [← hxb43]
          have HBz43 := Lib.hid (bel_tr HBz35.out hB)
          have HKy43 := Lib.hid (HKy35.out.below hB)
          have HXY := Lib.hid (show yb35 ≠ xb43 from by have := HKy35.out.1; omega)
          have HLx := Lib.hid (show w4.heap.size ≤ xb43 from by rw [hxb43]; exact HBz35.out.size)
          have HKx43 := Lib.hid hA
          clear HBz35 hA hB hxb43 HKy35
          refine oneL (i := 1) (by kernel_rfl) rfl (fun K hK => ?_)
          (go_simp; go_at_call 30; (with_reducible refine (HC30.out _ HBz43.out).mono ?_); rintro r44 wz44 ⟨rfl, hB⟩; have HBz44 := Lib.hid (bel_tr HBz43.out hB); have HKy44 := Lib.hid (HKy43.out.below hB); have HKx44 := Lib.hid (HKx43.out.below hB); clear hB)
          refine hK.out _ _ HBz44.out (fun _ => ?_)
          clear hK K HBz43 HKy43 HKx43
          try simp only [Act.put, List.setIfInBounds_toArray, List.set_cons_zero, List.set_cons_succ]
          refine oneL (i := 3) (by kernel_rfl) rfl (fun K hK => ?_)
          (go_simp; go_at_call 31; (with_reducible refine (HC31.out _ HBz44.out).mono ?_); rintro r45 wz45 ⟨rfl, hB⟩; have HBz45 := Lib.hid (bel_tr HBz44.out hB); have HKy45 := Lib.hid (HKy44.out.below hB); have HKx45 := Lib.hid (HKx44.out.below hB); clear hB)
          refine hK.out _ _ HBz45.out (fun _ => ?_)
          clear hK K HBz44 HKy44 HKx44
          try simp only [Act.put, List.setIfInBounds_toArray, List.set_cons_zero, List.set_cons_succ]
          have c0 := HKx45.out.cell 0 rfl; have f0 := HKx45.out.free 0 (by simp [Z10])
          have c1 := HKx45.out.cell 1 rfl; have f1 := HKx45.out.free 1 (by simp [Z10])
          have c2 := HKx45.out.cell 2 rfl; have f2 := HKx45.out.free 2 (by simp [Z10])
          have c3 := HKx45.out.cell 3 rfl; have f3 := HKx45.out.free 3 (by simp [Z10])
          have c4 := HKx45.out.cell 4 rfl; have f4 := HKx45.out.free 4 (by simp [Z10])
          have c5 := HKx45.out.cell 5 rfl; have f5 := HKx45.out.free 5 (by simp [Z10])
          have c6 := HKx45.out.cell 6 rfl; have f6 := HKx45.out.free 6 (by simp [Z10])
          have c7 := HKx45.out.cell 7 rfl; have f7 := HKx45.out.free 7 (by simp [Z10])
          have c8 := HKx45.out.cell 8 rfl; have f8 := HKx45.out.free 8 (by simp [Z10])
          have c9 := HKx45.out.cell 9 rfl; have f9 := HKx45.out.free 9 (by simp [Z10])
          refine oneL (i := 6) (by kernel_rfl) rfl (fun K hK => ?_)
          go_simp
          clear c0 f0 c1 f1 c2 f2 c3 f3 c4 f4 c5 f5 c6 f6 c7 f7 c8 f8 c9 f9
          have hk := st10_kept (w := wz45) (b := xb43) (.int .i64 ra) (.int .i64 rc) (.int .i64 0) (.int .i64 0) (.bool false) (.int .i64 0) (.int .i64 0) (.int .u64 0) (.string ⟨#[]⟩) (.slice none 0 0)
          have hb := st10_blk HKx45.out (.int .i64 ra) (.int .i64 rc) (.int .i64 0) (.int .i64 0) (.bool false) (.int .i64 0) (.int .i64 0) (.int .u64 0) (.string ⟨#[]⟩) (.slice none 0 0)
          have hB := ((Kept.of' (N := N1 xb43) HBz45.out).trans hk).below (Nat.le_refl _) (fun z hz e => by have := HLx.out; unfold N1 at e; omega)
          refine hK.out _ _ hB (fun _ => ?_)
          clear hK K
          try simp only [Act.put, List.setIfInBounds_toArray, List.set_cons_zero, List.set_cons_succ]
          change wpAnyL _ _ _ _ _ _ _ _ (st10 wz45 xb43 (.int .i64 ra) (.int .i64 rc) (.int .i64 0) (.int .i64 0) (.bool false) (.int .i64 0) (.int .i64 0) (.int .u64 0) (.string ⟨#[]⟩) (.slice none 0 0))
          have HYk := Lib.hid (HKy45.out.keep hk (fun e => by have := HXY.out; unfold N1 at e; omega))
          generalize st10 wz45 xb43 (.int .i64 ra) (.int .i64 rc) (.int .i64 0) (.int .i64 0) (.bool false) (.int .i64 0) (.int .i64 0) (.int .u64 0) (.string ⟨#[]⟩) (.slice none 0 0) = wS at *
          have HXk := Lib.hid hb
          have HBS := Lib.hid hB
          clear hk hb hB HKx45 HKy45 HBz45
          have c0 := HYk.out.cell 0 rfl; have f0 := HYk.out.free 0 (by simp [Z10])
          have c1 := HYk.out.cell 1 rfl; have f1 := HYk.out.free 1 (by simp [Z10])
          have c2 := HYk.out.cell 2 rfl; have f2 := HYk.out.free 2 (by simp [Z10])
          have c3 := HYk.out.cell 3 rfl; have f3 := HYk.out.free 3 (by simp [Z10])
          have c4 := HYk.out.cell 4 rfl; have f4 := HYk.out.free 4 (by simp [Z10])
          have c5 := HYk.out.cell 5 rfl; have f5 := HYk.out.free 5 (by simp [Z10])
          have c6 := HYk.out.cell 6 rfl; have f6 := HYk.out.free 6 (by simp [Z10])
          have c7 := HYk.out.cell 7 rfl; have f7 := HYk.out.free 7 (by simp [Z10])
          have c8 := HYk.out.cell 8 rfl; have f8 := HYk.out.free 8 (by simp [Z10])
          have c9 := HYk.out.cell 9 rfl; have f9 := HYk.out.free 9 (by simp [Z10])
          refine lastL (i := 7) (by kernel_rfl) rfl (by kernel_rfl) (by kernel_rfl) (fun K hK => ?_)
          go_simp
          clear c0 f0 c1 f1 c2 f2 c3 f3 c4 f4 c5 f5 c6 f6 c7 f7 c8 f8 c9 f9
          refine hK.out _ _ ?_
          clear hK K
          try simp only [Act.put, List.setIfInBounds_toArray, List.set_cons_zero, List.set_cons_succ]
          change Exit.then _ _ _ _ (st10 wS yb35 (.int .i64 ra) (.int .i64 rc) (.int .i64 0) (.int .i64 0) (.bool false) (.int .i64 0) (.int .i64 0) (.int .u64 0) (.string ⟨#[]⟩) (.slice none 0 0))
          have hk := st10_kept (w := wS) (b := yb35) (.int .i64 ra) (.int .i64 rc) (.int .i64 0) (.int .i64 0) (.bool false) (.int .i64 0) (.int .i64 0) (.int .u64 0) (.string ⟨#[]⟩) (.slice none 0 0)
          have hb := st10_blk HYk.out (.int .i64 ra) (.int .i64 rc) (.int .i64 0) (.int .i64 0) (.bool false) (.int .i64 0) (.int .i64 0) (.int .u64 0) (.string ⟨#[]⟩) (.slice none 0 0)
          have hB := ((Kept.of' (N := N1 yb35) HBS.out).trans hk).below (Nat.le_refl _) (fun z hz e => by have := HLy.out; unfold N1 at e; omega)
          have HXE := Lib.hid (HXk.out.keep hk (fun e => by have := HXY.out; unfold N1 at e; omega))
          generalize st10 wS yb35 (.int .i64 ra) (.int .i64 rc) (.int .i64 0) (.int .i64 0) (.bool false) (.int .i64 0) (.int .i64 0) (.int .u64 0) (.string ⟨#[]⟩) (.slice none 0 0) = wE at *
          have HYE := Lib.hid hb
          have HBE := Lib.hid hB
          clear hk hb hB HBS HXk HYk
          obtain ⟨⟨x0, x1, x2, x3, x4, x5, x6, x7, x8, x9, x10⟩, ⟨y0, y1, y2, y3, y4, y5, y6, y7, y8, y9, y10⟩⟩ := HSW.out _ HBE.out
          have c0 := HXE.out.cell 0 rfl; have d0 := HYE.out.cell 0 rfl
          have c1 := HXE.out.cell 1 rfl; have d1 := HYE.out.cell 1 rfl
          have c2 := HXE.out.cell 2 rfl; have d2 := HYE.out.cell 2 rfl
          have c3 := HXE.out.cell 3 rfl; have d3 := HYE.out.cell 3 rfl
          have c4 := HXE.out.cell 4 rfl; have d4 := HYE.out.cell 4 rfl
          have c5 := HXE.out.cell 5 rfl; have d5 := HYE.out.cell 5 rfl
          have c6 := HXE.out.cell 6 rfl; have d6 := HYE.out.cell 6 rfl
          have c7 := HXE.out.cell 7 rfl; have d7 := HYE.out.cell 7 rfl
          have c8 := HXE.out.cell 8 rfl; have d8 := HYE.out.cell 8 rfl
          have c9 := HXE.out.cell 9 rfl; have d9 := HYE.out.cell 9 rfl
          go_wp2_with (first
            | (go_at_call 15; (with_reducible refine (HC15.out _ HBE.out).mono ?_); rintro r9 w17 ⟨rfl, hB⟩; have HB17 := Lib.hid (bel_tr HBE.out hB); clear hB)
            | (go_at_call 11; (with_reducible refine (HW.out _).mono ?_); rintro r9 w18 ⟨rfl, hB⟩; have HB18 := Lib.hid (bel_tr HB17.out hB); clear hB))
          go_ret
          exact ⟨rfl, HB4.out.trans (HB18.out.mono HB4.out.size)⟩
end Go.Proofs.YtbldidiibkcelaaGreatDoor

