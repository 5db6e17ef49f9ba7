/-
  ErrsUnwraps (walk): the law. Not a statement of the seat.
-/
import Derived.Test.YtbldidiibkcelaaGreatDoorEBack
namespace Go.Proofs.YtbldidiibkcelaaGreatDoor
open Go.RowKit

/-- unwrapped so often -/
def chE : Nat → Et → Et
  | 0, e => e
  | n + 1, e => chE n (unwE e)
theorem chE_succ : ∀ (n : Nat) (e : Et), chE (n + 1) e = unwE (chE n e)
  | 0, _ => rfl
  | n + 1, e => chE_succ n (unwE e)
theorem chE_zero : ∀ n : Nat, chE n Et.zero = Et.zero
  | 0 => rfl
  | n + 1 => chE_zero n
theorem chE_right {e : Et} (h : rightE e = true) : ∀ n : Nat, rightE (chE n e) = true
  | 0 => h
  | n + 1 => by rw [chE_succ]; exact unwE_right (chE_right h n)
theorem chE_okS {e : Et} (h : okS e) : ∀ n : Nat, okS (chE n e)
  | 0 => h
  | n + 1 => by rw [chE_succ]; exact unwE_okS (chE_okS h n)
theorem unwE_hi {e : Et} (h : (unwE e).k ≠ 0) : ehi (unwE e).l + 1 ≤ ehi e.l := by
  obtain ⟨k, i, c, t, b, cs, l⟩ := e
  unfold unwE at h ⊢
  dsimp only at h ⊢
  split at h
  · rename_i hk
    rw [if_pos hk]
    cases l with
    | nil => exact absurd rfl h
    | cons k2 i2 c2 t2 b2 cs2 ks r => simp only [ehi]; omega
  · exact absurd rfl h
theorem unwE_one {e : Et} (hr : rightE e = true) (h : (unwE e).k ≠ 0) : e.k ≠ 0 ∧ e.l = .cons (unwE e).k (unwE e).i (unwE e).c (unwE e).t (unwE e).b (unwE e).cs (unwE e).l .nil := by
  obtain ⟨k, i, c, t, b, cs, l⟩ := e
  unfold rightE rright1 at hr
  dsimp only at hr
  rw [Bool.and_eq_true] at hr
  have hn := (fit_num hr.1).2.1
  unfold unwE at h ⊢
  dsimp only at h ⊢
  split at h
  · rename_i hk
    rw [if_pos hk]
    refine ⟨by omega, ?_⟩
    cases l with
    | nil => exact absurd rfl h
    | cons k2 i2 c2 t2 b2 cs2 ks r =>
      obtain ⟨_, _, _, _, _, _, _, h1⟩ := len1 (show (Eo.cons k2 i2 c2 t2 b2 cs2 ks r).len = 1 by rcases hk with rfl | rfl <;> simp [fldM] at hn <;> simp [Eo.len] at hn ⊢ <;> omega)
      cases h1
      rfl
  · exact absurd rfl h
/-- Is finds what it unwraps to, unless it gives up -/
theorem is_chain : ∀ (j : Nat) (e : Et), rightE e = true → (chE j e).k ≠ 0 → eqE (chE j e).k (chE j e).i (chE j e).c (chE j e).t (chE j e).b (chE j e).k (chE j e).i (chE j e).c (chE j e).t (chE j e).b = (true, 0) →
    (is1 ⟨(chE j e).k, (chE j e).i, (chE j e).c, (chE j e).t, (chE j e).b, [], .nil⟩ e.k e.i e.c e.t e.b e.cs e.l).2 = 0 → (is1 ⟨(chE j e).k, (chE j e).i, (chE j e).c, (chE j e).t, (chE j e).b, [], .nil⟩ e.k e.i e.c e.t e.b e.cs e.l).1 = true
  | 0, e, _, h0, he, _ => by
    have h6 : e.k ≠ 6 := fun h => by
      have h1 : eqE e.k e.i e.c e.t e.b e.k e.i e.c e.t e.b = (true, 0) := he
      unfold eqE at h1
      rw [if_neg (by simp), if_neg (by omega), if_neg (by omega), if_pos h] at h1
      cases h1
    have he' : eqE e.k e.i e.c e.t e.b e.k e.i e.c e.t e.b = (true, 0) := he
    show (is1 ⟨e.k, e.i, e.c, e.t, e.b, [], .nil⟩ e.k e.i e.c e.t e.b e.cs e.l).1 = true
    have hh : isHead ⟨e.k, e.i, e.c, e.t, e.b, [], .nil⟩ e.k e.i e.c e.t e.b e.cs = (true, 0) := by
      unfold isHead
      dsimp only
      rw [if_neg h6, he']
      rfl
    rw [is1_pos (show e.k ≠ 0 from h0), hh]
    rfl
  | j + 1, e, hr, h0, he, hz => by
    have hx : chE (j + 1) e = chE j (unwE e) := rfl
    have hu : (unwE e).k ≠ 0 := fun h => by
      have := right_zero (unwE_right hr) h
      rw [hx, this, chE_zero] at h0
      exact h0 rfl
    obtain ⟨hk, hl⟩ := unwE_one hr hu
    have ih := is_chain j (unwE e) (unwE_right hr) (by rw [← hx]; exact h0) (by rw [← hx]; exact he)
    rw [← hx] at ih
    generalize (⟨(chE (j + 1) e).k, (chE (j + 1) e).i, (chE (j + 1) e).c, (chE (j + 1) e).t, (chE (j + 1) e).b, [], .nil⟩ : Et) = T at *
    rw [is1_pos hk] at hz ⊢
    cases hd : decd (isHead T e.k e.i e.c e.t e.b e.cs)
    · rw [hd] at hz
      rw [hl, isL_one] at hz
      rw [hl, isL_one]
      exact ih hz
    · rw [hd] at hz
      have hz' : (isHead T e.k e.i e.c e.t e.b e.cs).2 = 0 := hz
      unfold decd at hd
      rw [hz'] at hd
      have hd' : (isHead T e.k e.i e.c e.t e.b e.cs).1 = true := by simpa using hd
      exact hd'

/-- between two rounds -/
def UwRel (e : Et) (w3 : World) (q : Nat) (t4 : Value) (wr : World) : Prop :=
  ∃ (j : Nat) (bl : Option Addr) (bn bc : Nat) (cl : Option Addr) (cn cc : Nat) (l : Option Addr) (n cap : Nat), t4 = .int .i64 (j : Nat) ∧ ((chE j e).k ≠ 0 → j + 1 + ehi (chE j e).l ≤ 16) ∧ ErAt (fun x => x < wr.heap.size ∧ x ≠ q) wr (chE j e) bl bn bc cl cn cc l n cap ∧ Blk wr q (V11 (chE j e).k (chE j e).i (chE j e).c (chE j e).t (chE j e).b bl bn bc cl cn cc l n cap) ∧ Kept (N1 q) w3 wr
theorem uw_next {e : Et} {w3 wr w4 : World} {q j : Nat} {bl : Option Addr} {bn bc : Nat} {cl : Option Addr} {cn cc : Nat} {l : Option Addr} {n cap : Nat} {vs u : List Value} (h0 : (chE j e).k ≠ 0) (hd : (chE j e).k ≠ 0 → j + 1 + ehi (chE j e).l ≤ 16) (hq : q < wr.heap.size) (hK : Kept (N1 q) w3 wr) (hB : Below wr.heap.size wr w4)
    (hF : FoAt (fun x => wr.heap.size ≤ x) w4 (unwE (chE j e)).b.l bl bn bc) (hC : Row wr.heap.size w4 1 cl cn cc (I8 (unwE (chE j e)).cs)) (hR : Row wr.heap.size w4 11 l n cap vs ∧ EAt (fun x => wr.heap.size ≤ x ∧ blockOf l ≠ some x) w4 (unwE (chE j e)).l vs) (hQ : Blk w4 q u) (hu : ∃ a0 a1 a2 a3 a4 a5 a6 a7 a8 a9 a10, u = [a0, a1, a2, a3, a4, a5, a6, a7, a8, a9, a10]) :
    UwRel e w3 q (.int .i64 ((j : Int) + 1)) (st11 w4 q (.int .i64 (unwE (chE j e)).k) (.int .i64 (unwE (chE j e)).i) (.int .i64 (unwE (chE j e)).c) (.string ⟨(unwE (chE j e)).t.toArray⟩) (.int .i64 (unwE (chE j e)).b.k) (.int .i64 (unwE (chE j e)).b.i) (.int .u64 (unwE (chE j e)).b.b) (.string ⟨(unwE (chE j e)).b.t.toArray⟩) (.slice bl bn bc) (.slice cl cn cc) (.slice l n cap)) := by
  obtain ⟨a0, a1, a2, a3, a4, a5, a6, a7, a8, a9, a10, rfl⟩ := hu
  have h1 := st11_kept (w := w4) (b := q) (.int .i64 (unwE (chE j e)).k) (.int .i64 (unwE (chE j e)).i) (.int .i64 (unwE (chE j e)).c) (.string ⟨(unwE (chE j e)).t.toArray⟩) (.int .i64 (unwE (chE j e)).b.k) (.int .i64 (unwE (chE j e)).b.i) (.int .u64 (unwE (chE j e)).b.b) (.string ⟨(unwE (chE j e)).b.t.toArray⟩) (.slice bl bn bc) (.slice cl cn cc) (.slice l n cap)
  have h2 := st11_blk hQ (.int .i64 (unwE (chE j e)).k) (.int .i64 (unwE (chE j e)).i) (.int .i64 (unwE (chE j e)).c) (.string ⟨(unwE (chE j e)).t.toArray⟩) (.int .i64 (unwE (chE j e)).b.k) (.int .i64 (unwE (chE j e)).b.i) (.int .u64 (unwE (chE j e)).b.b) (.string ⟨(unwE (chE j e)).b.t.toArray⟩) (.slice bl bn bc) (.slice cl cn cc) (.slice l n cap)
  have hbx : ErAt (fun x => wr.heap.size ≤ x) w4 (unwE (chE j e)) bl bn bc cl cn cc l n cap := ⟨hF, ⟨hC.rd, fun x _ hx => (hC.lt x hx).1⟩, vs, ⟨hR.1.rd, fun x _ hx => (hR.1.lt x hx).1⟩, EAt.same _ hR.2 (fun _ _ _ => rfl) (fun x hx _ => hx.1)⟩
  have hs := hB.size
  refine ⟨j + 1, bl, bn, bc, cl, cn, cc, l, n, cap, by simp, ?_, ?_, ?_, (hK.calm hB).trans h1⟩
  · rw [chE_succ]
    intro h
    have := unwE_hi h
    have := hd h0
    omega
  · rw [chE_succ]
    refine (hbx.same (w' := _) (fun x hx hl => h1.block x hl (fun e => ?_)) (fun x hx hl => ⟨Nat.lt_of_lt_of_le hl h1.size, ?_⟩))
    · have h9 : wr.heap.size ≤ x := hx
      unfold N1 at e; omega
    · have h9 : wr.heap.size ≤ x := hx
      omega
  · rw [chE_succ]
    exact h2

set_option maxRecDepth 100000 in
set_option maxHeartbeats 16000000 in
theorem errsUnwrapsT {a0 : Addr} {S : Nat → Prop} {e : Et} {bl : Option Addr} {bn bc : Nat} {cl : Option Addr} {cn cc : Nat} {l : Option Addr} {n cap : Nat} {w : World}
    (hE : ErAt S w e bl bn bc cl cn cc l n cap) (hS : ∀ x, S x → x < w.heap.size) (hcs : e.cs.length ≤ 140737488355328) (hks : e.l.small) (hL : LB a0 w) :
    Calls Tryz.prog 6 #[vE e.k e.i e.c e.t e.b bl bn bc cl cn cc l n cap] w (fun r w' => r = .returned (.bool true) ∧ Below w.heap.size w w') := by
  have hEx : ∀ wx, Below w.heap.size w wx → ErAt S wx e bl bn bc cl cn cc l n cap := fun wx hx => hE.same (fun x _ hlt => hx.block x hlt) (fun x hx _ => hx)
  have hSx : ∀ wx, Below w.heap.size w wx → ∀ x, S x → x < wx.heap.size := fun wx hx x hx' => Nat.lt_of_lt_of_le (hS x hx') hx.size
  have HV1 := Lib.hid (fun (wx : World) (hx : Below w.heap.size w wx) => show Calls Tryz.prog 10 #[vE e.k e.i e.c e.t e.b bl bn bc cl cn cc l n cap] wx (fun r w' => r = .returned (.bool (ervalidM e)) ∧ Below wx.heap.size wx w') from ervalidN (hEx wx hx) (hSx wx hx) hcs hks)
  have HW := Lib.hid (fun (wx : World) => awakeT wx)
  have hA := ebox_blk w e.k e.i e.c e.t e.b bl bn bc cl cn cc l n cap
  have hB := ebox_below w e.k e.i e.c e.t e.b bl bn bc cl cn cc l n cap
  have hs1 := ebox_size w e.k e.i e.c e.t e.b bl bn bc cl cn cc l n cap
  have hok := (ervalid_ok e).1
  unfold vE at HV1 ⊢
  go_enter Tryz.func6, Tryz.ntmps6
  go_upto_region 1 with (fail)
  change Code.wp _ _ _ _ (ebox w e.k e.i e.c e.t e.b bl bn bc cl cn cc l n cap)
  generalize ebox w e.k e.i e.c e.t e.b bl bn bc cl cn cc l n cap = w1 at *
  obtain ⟨p, hp⟩ : ∃ x, x = w.heap.size := ⟨_, rfl⟩
  rw [← hp] at hA
  rw [← hp]
  have x0 := hA.cell 0 rfl
  have x1 := hA.cell 1 rfl
  have x2 := hA.cell 2 rfl
  have x3 := hA.cell 3 rfl
  have x4 := hA.cell 4 rfl
  have x5 := hA.cell 5 rfl
  have x6 := hA.cell 6 rfl
  have x7 := hA.cell 7 rfl
  have x8 := hA.cell 8 rfl
  have x9 := hA.cell 9 rfl
  have x10 := hA.cell 10 rfl
  have HB := Lib.hid hB
  have HA := Lib.hid hA
  have HPS := Lib.hid (And.intro hp hs1)
  generalize ervalidM e = v1 at *
  clear hA hB hp hs1
  cases v1
  · go_wp2_with (first
      | (go_at_call 10; (with_reducible refine (HV1.out _ HB.out).mono ?_); rintro r2 w2 ⟨rfl, hB⟩; have HB2 := Lib.hid (bel_tr HB.out hB); clear hB)
      | (go_at_call 11; (with_reducible refine (HW.out _).mono ?_); rintro r3 w3 ⟨rfl, hB⟩; have HB3 := Lib.hid (bel_tr HB2.out hB); clear hB))
    go_ret
    exact ⟨rfl, HB3.out⟩
  have hokE := hok rfl
  clear hok
  obtain ⟨k, i, c, t, b, cs, kids⟩ := e
  by_cases hk0 : k = 0
  · subst hk0
    go_wp2_with (first
      | (go_at_call 10; (with_reducible refine (HV1.out _ HB.out).mono ?_); rintro r2 w2 ⟨rfl, hB⟩; have HB2 := Lib.hid (bel_tr HB.out hB); replace x0 := cellAt hB x0; replace x1 := cellAt hB x1; replace x2 := cellAt hB x2; replace x3 := cellAt hB x3; replace x4 := cellAt hB x4; replace x5 := cellAt hB x5; replace x6 := cellAt hB x6; replace x7 := cellAt hB x7; replace x8 := cellAt hB x8; replace x9 := cellAt hB x9; replace x10 := cellAt hB x10; clear hB)
      | (go_at_call 11; (with_reducible refine (HW.out _).mono ?_); rintro r3 w3 ⟨rfl, hB⟩; have HB3 := Lib.hid (bel_tr HB2.out hB); clear hB))
    go_ret
    exact ⟨rfl, HB3.out⟩
  have hL0 : 0 < w.heap.size := World.block_lt_of_cell? w ⟨0, 0, none⟩ hL
  go_upto_region 4 with (go_at_call 10; (with_reducible refine (HV1.out _ HB.out).mono ?_); rintro r2 w2 ⟨rfl, hB⟩; have HB2 := Lib.hid (bel_tr HB.out hB); have HA2 := Lib.hid (HA.out.below hB); have HB12 := Lib.hid hB; replace x0 := cellAt hB x0; replace x1 := cellAt hB x1; replace x2 := cellAt hB x2; replace x3 := cellAt hB x3; replace x4 := cellAt hB x4; replace x5 := cellAt hB x5; replace x6 := cellAt hB x6; replace x7 := cellAt hB x7; replace x8 := cellAt hB x8; replace x9 := cellAt hB x9; replace x10 := cellAt hB x10; clear hB)
  change Code.wp _ _ _ _ (ebox w2 k i c t b bl bn bc cl cn cc l n cap)
  have hQ := ebox_blk w2 k i c t b bl bn bc cl cn cc l n cap
  have hB3 := ebox_below w2 k i c t b bl bn bc cl cn cc l n cap
  have hs3 := ebox_size w2 k i c t b bl bn bc cl cn cc l n cap
  generalize ebox w2 k i c t b bl bn bc cl cn cc l n cap = w3 at *
  obtain ⟨q, hq⟩ : ∃ x, x = w2.heap.size := ⟨_, rfl⟩
  rw [← hq] at hQ
  rw [← hq]
  have HA3 := Lib.hid (HA2.out.below hB3)
  have hB30 : Below w.heap.size w w3 := bel_tr HB2.out hB3
  have hqp : p < q ∧ w.heap.size ≤ p ∧ q < w3.heap.size := by
    have h1 := HPS.out
    have h2 := HB12.out.size
    omega
  have hRt : rightE ⟨k, i, c, t, b, cs, kids⟩ = true := hokE.2.2.1
  have hOS := hokE.okS
  have hE3 := hEx w3 hB30
  have HREL := Lib.hid (show UwRel ⟨k, i, c, t, b, cs, kids⟩ w3 q (.int .i64 0) w3 from ⟨0, bl, bn, bc, cl, cn, cc, l, n, cap, rfl, fun _ => by have := hokE.2.1; show 0 + 1 + ehi kids ≤ 16; dsimp only at this; omega, hE3.same (fun _ _ _ => rfl) (fun x hx _ => by have h1 := hS x hx; exact ⟨by omega, by omega⟩), hQ, Kept.refl _ _⟩)
  have hfitE := hRt
  unfold rightE rright1 at hfitE
  rw [Bool.and_eq_true] at hfitE
  have hkE := (fit_num hfitE.1).1
  have HALL := Lib.hid (And.intro hEx (And.intro hS (And.intro hL (And.intro hRt (And.intro hOS (And.intro hokE (And.intro hk0 (And.intro hkE (And.intro hB30 (And.intro hqp hL0))))))))))
  clear hEx hS hL hE hSx hcs hks hokE hOS hB3 hs3 hB30 hqp hRt hE3 hQ hfitE hkE hL0 hq HA2 HB12 HV1 x0 x1 x2 x3 x4 x5 x6 x7 x8 x9 x10
  go_wp2_with fail
  go_loopw [4] (fun t4 wr => UwRel ⟨k, i, c, t, b, cs, kids⟩ w3 q t4 wr) (fun t4 _ => 20 - (intOf t4).toNat)
  case atStart => exact HREL.out
  case round =>
    clear HREL
    obtain ⟨j, blx, bnx, bcx, clx, cnx, ccx, lx, nx, capx, rfl, hd, hEr, hQ, hK⟩ := hrel
    obtain ⟨hEx, hS, hL, hRt, hOS, hokE, hk0, hkE, hB30, hqp, hL0⟩ := HALL.out
    have hxr := chE_right hRt j
    have hxo := chE_okS hOS j
    have hic := is_chain j _ hRt
    have hnx := fun (wr w4 : World) (bl : Option Addr) (bn bc : Nat) (cl : Option Addr) (cn cc : Nat) (l : Option Addr) (n cap : Nat) (vs u : List Value) => @uw_next ⟨k, i, c, t, b, cs, kids⟩ w3 wr w4 q j bl bn bc cl cn cc l n cap vs u
    generalize hxe : chE j ⟨k, i, c, t, b, cs, kids⟩ = x at *
    obtain ⟨k2, i2, c2, t2, b2, cs2, ks⟩ := x
    dsimp only at *
    have hBr : Below w.heap.size w wr := hB30.trans (hK.below (by omega) (fun x hx e => by unfold N1 at e; omega))
    by_cases h2 : k2 = 0
    · subst h2
      have y0 := hQ.cell 0 rfl
      have HBR := Lib.hid hBr
      clear hd hEr hQ hK hEx hS hL hRt hOS hokE hk0 hkE hB30 hqp hL0 hxr hxo hic hnx hxe hBr
      go_wp2_with (go_at_call 11; (with_reducible refine (HW.out _).mono ?_); rintro r4 w4 ⟨rfl, hB⟩; have HB4 := Lib.hid (bel_tr HBR.out hB); clear hB)
      go_ret
      exact ⟨rfl, HB4.out⟩
    · have hd1 := hd h2
      have hj : ¬ (16 : Int) < (j : Int) := by omega
      have hne : ¬ (k2 = 0) := h2
      have hx2 := hxr
      unfold rightE rright1 at hx2
      dsimp only at hx2
      rw [Bool.and_eq_true] at hx2
      obtain ⟨hkX, _, hbX, _⟩ := fit_num hx2.1
      have hrE := hRt
      unfold rightE at hrE
      have hqs : q < wr.heap.size := Nat.lt_of_lt_of_le hqp.2.2 hK.size
      have hLr : ∀ wx, Below wr.heap.size wr wx → LB a0 wx := fun wx hx => (LB.below (show LB a0 wr from LB.below hL hBr)) hx
      have hEr' : ∀ wx, Below wr.heap.size wr wx → ErAt (fun x => x < wr.heap.size ∧ x ≠ q) wx ⟨k2, i2, c2, t2, b2, cs2, ks⟩ blx bnx bcx clx cnx ccx lx nx capx := fun wx hx => hEr.same (fun x _ hlt => hx.block x hlt) (fun x hx _ => hx)
      have hSr : ∀ wx, Below wr.heap.size wr wx → ∀ x, (x < wr.heap.size ∧ x ≠ q) → x < wx.heap.size := fun wx hx x hx' => Nat.lt_of_lt_of_le hx'.1 hx.size
      have hEe : ∀ wx, Below wr.heap.size wr wx → ErAt (fun x => x < wr.heap.size ∧ x ≠ q) wx ⟨k, i, c, t, b, cs, kids⟩ bl bn bc cl cn cc l n cap := fun wx hx => (hEx wx (bel_tr hBr hx)).same (fun _ _ _ => rfl) (fun x hx' _ => by have h1 := hS x hx'; have h3 := hBr.size; exact ⟨by omega, by omega⟩)
      have H12 := Lib.hid (fun (wx : World) (hx : Below wr.heap.size wr wx) => equal12 (k := k2) (i := i2) (c := c2) (t := t2) (b := b2) (cl := clx) (cn := cnx) (cc := ccx) (l := lx) (n := nx) (cap := capx) (k' := k2) (i' := i2) (c' := c2) (t' := t2) (b' := b2) (cl' := clx) (cn' := cnx) (cc' := ccx) (l' := lx) (n' := nx) (cap' := capx) (hEr' wx hx).1 (hEr' wx hx).1 (hSr wx hx) hbX hbX (hLr wx hx))
      have H16 := Lib.hid (fun (wx : World) (hx : Below wr.heap.size wr wx) => is16g (k' := k2) (i' := i2) (c' := c2) (t' := t2) (b' := b2) (cl' := clx) (cn' := cnx) (cc' := ccx) (l' := lx) (n' := nx) (cap' := capx) hkE hkX (hEe wx hx) (hEr' wx hx).1 (hSr wx hx) (hLr wx hx) hbX hrE (by have h1 := hokE.2.1; dsimp only at h1; omega))
      have H24 := Lib.hid (fun (wx : World) (hx : Below wr.heap.size wr wx) => unw24 (hEr' wx hx) (hSr wx hx) hxr hxo)
      have hn1 := eqE_nrm k2 i2 c2 t2 b2 k2 i2 c2 t2 b2
      have hn2 : nrm (isTop ⟨k2, i2, c2, t2, b2, [], .nil⟩ k i c t b cs kids) := by
        unfold isTop
        exact nrm_if (nrm_b _) (is1_nrm _ _ _ _ _ _ _ _)
      have hit : isTop ⟨k2, i2, c2, t2, b2, [], .nil⟩ k i c t b cs kids = is1 ⟨k2, i2, c2, t2, b2, [], .nil⟩ k i c t b cs kids := by
        unfold isTop
        exact if_neg (by rintro (h | h); exact hk0 h; exact h2 h)
      replace hic := hic h2
      rw [← hit] at hic
      generalize isTop ⟨k2, i2, c2, t2, b2, [], .nil⟩ k i c t b cs kids = ri at *
      generalize eqE k2 i2 c2 t2 b2 k2 i2 c2 t2 b2 = re at *
      have hP := (HA3.out.keep hK (fun e => by unfold N1 at e; omega))
      have x0 := hP.cell 0 rfl
      have y0 := hQ.cell 0 rfl
      have x1 := hP.cell 1 rfl
      have y1 := hQ.cell 1 rfl
      have x2 := hP.cell 2 rfl
      have y2 := hQ.cell 2 rfl
      have x3 := hP.cell 3 rfl
      have y3 := hQ.cell 3 rfl
      have x4 := hP.cell 4 rfl
      have y4 := hQ.cell 4 rfl
      have x5 := hP.cell 5 rfl
      have y5 := hQ.cell 5 rfl
      have x6 := hP.cell 6 rfl
      have y6 := hQ.cell 6 rfl
      have x7 := hP.cell 7 rfl
      have y7 := hQ.cell 7 rfl
      have x8 := hP.cell 8 rfl
      have y8 := hQ.cell 8 rfl
      have x9 := hP.cell 9 rfl
      have y9 := hQ.cell 9 rfl
      have x10 := hP.cell 10 rfl
      have y10 := hQ.cell 10 rfl
      have HNX := Lib.hid (fun w4 => hnx wr w4)
      have HHD := Lib.hid (And.intro h2 (And.intro hd (And.intro hqs hK)))
      have HQ := Lib.hid hQ
      have HRR := Lib.hid (Below.refl wr.heap.size wr)
      unfold vE at H12 H16 H24
      clear hd hEr hEr' hQ hK hEx hS hL hRt hOS hokE hk0 hkE hB30 hqp hL0 hxr hxo hnx hxe hBr hP hLr hSr hEe hit hrE hx2 hkX hbX hqs hd1
      rcases hn1 with rfl | rfl | rfl <;> rcases hn2 with rfl | rfl | rfl
      all_goals first
        | exact absurd (hic rfl rfl) (by decide)
        | skip
      all_goals
        clear hic
        go_wp2_with (first
          | (go_at_call 12; (with_reducible refine (H12.out _ HRR.out).mono ?_); rintro r4 w4 ⟨rfl, hB⟩; have HB4 := Lib.hid hB; replace x0 := cellAt hB x0; replace x1 := cellAt hB x1; replace x2 := cellAt hB x2; replace x3 := cellAt hB x3; replace x4 := cellAt hB x4; replace x5 := cellAt hB x5; replace x6 := cellAt hB x6; replace x7 := cellAt hB x7; replace x8 := cellAt hB x8; replace x9 := cellAt hB x9; replace x10 := cellAt hB x10; replace y0 := cellAt hB y0; replace y1 := cellAt hB y1; replace y2 := cellAt hB y2; replace y3 := cellAt hB y3; replace y4 := cellAt hB y4; replace y5 := cellAt hB y5; replace y6 := cellAt hB y6; replace y7 := cellAt hB y7; replace y8 := cellAt hB y8; replace y9 := cellAt hB y9; replace y10 := cellAt hB y10; clear hB)
          | (go_at_call 16; (with_reducible refine (H16.out _ HB4.out).mono ?_); rintro r5 w5 ⟨rfl, hB⟩; have HB5 := Lib.hid (bel_tr HB4.out hB); replace x0 := cellAt hB x0; replace x1 := cellAt hB x1; replace x2 := cellAt hB x2; replace x3 := cellAt hB x3; replace x4 := cellAt hB x4; replace x5 := cellAt hB x5; replace x6 := cellAt hB x6; replace x7 := cellAt hB x7; replace x8 := cellAt hB x8; replace x9 := cellAt hB x9; replace x10 := cellAt hB x10; replace y0 := cellAt hB y0; replace y1 := cellAt hB y1; replace y2 := cellAt hB y2; replace y3 := cellAt hB y3; replace y4 := cellAt hB y4; replace y5 := cellAt hB y5; replace y6 := cellAt hB y6; replace y7 := cellAt hB y7; replace y8 := cellAt hB y8; replace y9 := cellAt hB y9; replace y10 := cellAt hB y10; clear hB)
          | (go_at_call 24; (with_reducible refine (H24.out _ HB5.out).mono ?_); intro r6 w6 h6; obtain ⟨bl3, bn3, bc3, cl3, cn3, cc3, l3, n3, cap3, vs3, rfl, hF6, hR6, hT6, hB⟩ := h6
             have HB6 := Lib.hid (bel_tr HB5.out hB); replace x0 := cellAt hB x0; replace x1 := cellAt hB x1; replace x2 := cellAt hB x2; replace x3 := cellAt hB x3; replace x4 := cellAt hB x4; replace x5 := cellAt hB x5; replace x6 := cellAt hB x6; replace x7 := cellAt hB x7; replace x8 := cellAt hB x8; replace x9 := cellAt hB x9; replace x10 := cellAt hB x10; replace y0 := cellAt hB y0; replace y1 := cellAt hB y1; replace y2 := cellAt hB y2; replace y3 := cellAt hB y3; replace y4 := cellAt hB y4; replace y5 := cellAt hB y5; replace y6 := cellAt hB y6; replace y7 := cellAt hB y7; replace y8 := cellAt hB y8; replace y9 := cellAt hB y9; replace y10 := cellAt hB y10; have HQ6 := Lib.hid (HQ.out.below HB6.out)
             have HCL := Lib.hid (And.intro hF6 (And.intro hR6 hT6)); have HB56 := Lib.hid HB5.out.size
             have f0 := HQ6.out.free 0 (by simp [V11]); have f1 := HQ6.out.free 1 (by simp [V11]); have f2 := HQ6.out.free 2 (by simp [V11]); have f3 := HQ6.out.free 3 (by simp [V11]); have f4 := HQ6.out.free 4 (by simp [V11]); have f5 := HQ6.out.free 5 (by simp [V11]); have f6 := HQ6.out.free 6 (by simp [V11]); have f7 := HQ6.out.free 7 (by simp [V11]); have f8 := HQ6.out.free 8 (by simp [V11]); have f9 := HQ6.out.free 9 (by simp [V11]); have f10 := HQ6.out.free 10 (by simp [V11])
             unfold vE
             clear hB hF6 hR6 hT6))
        go_roundw
        case rel =>
          exact HNX.out w6 _ _ _ _ _ _ _ _ _ _ _ HHD.out.1 HHD.out.2.1 HHD.out.2.2.1 HHD.out.2.2.2 HB6.out (HCL.out.1.same (fun _ _ _ => rfl) (fun x hx _ => Nat.le_trans HB56.out hx)) (HCL.out.2.1.mono HB56.out) ⟨HCL.out.2.2.1.mono HB56.out, EAt.same _ HCL.out.2.2.2 (fun _ _ _ => rfl) (fun x hx _ => ⟨Nat.le_trans HB56.out hx.1, hx.2⟩)⟩ HQ6.out ⟨_, _, _, _, _, _, _, _, _, _, _, rfl⟩
        case measure => simp [intOf]; have h1 := HHD.out.2.1 HHD.out.1; omega
end Go.Proofs.YtbldidiibkcelaaGreatDoor
