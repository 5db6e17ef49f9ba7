/-
  The document's Equal (walk). Not a statement of the seat.
-/
import Derived.Test.YtbldidiibkcelaaGreatDoorMaps
import Derived.Test.YtbldidiibkcelaaGreatDoorERValid
namespace Go.Proofs.YtbldidiibkcelaaGreatDoor
open Go.RowKit

def feq (b b' : Int) : Bool := Op.floatEq .f64 b.toNat b'.toNat
/-- equality of one value, its kind of failing -/
def eqOne (k i b : Int) (t : Bs) (k' i' b' : Int) (t' : Bs) (p : Bool × Int) : Bool × Int :=
  if k = k' then
    if k = 7 then (false, 10)
    else if k = 8 then (false, 10)
    else if k = 3 then (feq b b', 0)
    else if k = 9 then p
    else (i == i' && t == t', 0)
  else (false, 0)
def eqF : Fo → Fo → Bool × Int
  | .cons k i b t ks r, .cons k' i' b' t' ks' r' => if (eqOne k i b t k' i' b' t' (eqF ks ks')).1 then eqF r r' else eqOne k i b t k' i' b' t' (eqF ks ks')
  | _, _ => (true, 0)
def eqD (d e : Dt) : Bool × Int := eqOne d.k d.i d.b d.t e.k e.i e.b e.t (eqF d.l e.l)
def nrm (p : Bool × Int) : Prop := p = (true, 0) ∨ p = (false, 0) ∨ p = (false, 10)
theorem eqOne_nrm {k i b k' i' b' : Int} {t t' : Bs} {p : Bool × Int} (h : nrm p) : nrm (eqOne k i b t k' i' b' t' p) := by
  have hb : ∀ x : Bool, nrm (x, 0) := fun x => by cases x <;> simp [nrm]
  unfold eqOne
  split
  · split
    · exact .inr (.inr rfl)
    · split
      · exact .inr (.inr rfl)
      · split
        · exact hb _
        · split
          · exact h
          · exact hb _
  · exact .inr (.inl rfl)
theorem eqF_nrm : ∀ f g : Fo, nrm (eqF f g)
  | .cons k i b t ks r, .cons k' i' b' t' ks' r' => by
    rw [eqF]
    split
    · exact eqF_nrm r r'
    · exact eqOne_nrm (eqF_nrm ks ks')
  | .nil, g => by cases g <;> exact .inl rfl
  | .cons _ _ _ _ _ _, .nil => .inl rfl
theorem nrm_two {p q : Bool × Int} (hq : nrm q) : (if p.1 then (if q.1 then ((true, 0) : Bool × Int) else q) else p) = if p.1 then q else p := by
  rcases hq with rfl | rfl | rfl <;> rfl

theorem feq_run (b b' : Int) (w : World) : (binOp .eql 115 (.float .f64 b.toNat) (.float .f64 b'.toNat)).run Tryz.prog w = .ok (.bool (feq b b')) w := by kernel_rfl
def REQ (kids : Fo) : Prop := ∀ (g : Fo) (k i b k' i' b' : Int) (t t' : Bs) (l l' : Option Addr) (n c n' c' : Nat) (S : Nat → Prop) (w : World), FoAt S w kids l n c → FoAt S w g l' n' c' → (∀ x, S x → x < w.heap.size) →
  (k = 9 → kids.len = 2) → (k' = 9 → g.len = 2) → shapeF kids → shapeF g →
  Calls Tryz.prog 45 #[.agg #[.int .i64 k, .int .i64 i, .int .u64 b, .string ⟨t.toArray⟩, .slice l n c], .agg #[.int .i64 k', .int .i64 i', .int .u64 b', .string ⟨t'.toArray⟩, .slice l' n' c']] w
    (fun e w' => e = .returned (.tuple #[.bool (eqOne k i b t k' i' b' t' (eqF kids g)).1, .int .i64 (eqOne k i b t k' i' b' t' (eqF kids g)).2]) ∧ Below w.heap.size w w')

set_option maxRecDepth 100000 in
set_option maxHeartbeats 16000000 in
theorem reqN {kids : Fo} (hall : kids.All REQ) : REQ kids := by
  intro g k i b k' i' b' t t' l l' n c n' c' S w hF hG hS h9 h9' hsh hsg
  have hA := (Blk.new w #[.int .i64 k, .int .i64 i, .int .u64 b, .string ⟨t.toArray⟩, .slice l n c] 25).alloc (.cells #[.int .i64 k', .int .i64 i', .int .u64 b', .string ⟨t'.toArray⟩, .slice l' n' c'] 25)
  have hA' := Blk.new (w.alloc (.cells #[.int .i64 k, .int .i64 i, .int .u64 b, .string ⟨t.toArray⟩, .slice l n c] 25)) #[.int .i64 k', .int .i64 i', .int .u64 b', .string ⟨t'.toArray⟩, .slice l' n' c'] 25
  have hs1 : (w.alloc (.cells #[.int .i64 k, .int .i64 i, .int .u64 b, .string ⟨t.toArray⟩, .slice l n c] 25)).heap.size = w.heap.size + 1 := by simp
  rw [hs1] at hA'
  have hB : Below w.heap.size w ((w.alloc (.cells #[.int .i64 k, .int .i64 i, .int .u64 b, .string ⟨t.toArray⟩, .slice l n c] 25)).alloc (.cells #[.int .i64 k', .int .i64 i', .int .u64 b', .string ⟨t'.toArray⟩, .slice l' n' c'] 25)) := ((Below.refl _ w).alloc (Nat.le_refl _) _).alloc (by simp) _
  have hF := hF.same (w' := ((w.alloc (.cells #[.int .i64 k, .int .i64 i, .int .u64 b, .string ⟨t.toArray⟩, .slice l n c] 25)).alloc (.cells #[.int .i64 k', .int .i64 i', .int .u64 b', .string ⟨t'.toArray⟩, .slice l' n' c'] 25))) (fun x hx hlt => hB.block x hlt) (fun x hx _ => hx)
  have hG := hG.same (w' := ((w.alloc (.cells #[.int .i64 k, .int .i64 i, .int .u64 b, .string ⟨t.toArray⟩, .slice l n c] 25)).alloc (.cells #[.int .i64 k', .int .i64 i', .int .u64 b', .string ⟨t'.toArray⟩, .slice l' n' c'] 25))) (fun x hx hlt => hB.block x hlt) (fun x hx _ => hx)
  have HF := Lib.hid hF
  have HG := Lib.hid hG
  have HS := Lib.hid hS
  have HALL := Lib.hid hall
  have H9 := Lib.hid (And.intro h9 h9')
  have HSH := Lib.hid (And.intro hsh hsg)
  clear hF hG hS hall hs1 h9 h9' hsh hsg
  go_enter Tryz.func45, Tryz.ntmps45
  go_upto_region 1 with (fail)
  generalize (w.alloc (.cells #[.int .i64 k, .int .i64 i, .int .u64 b, .string ⟨t.toArray⟩, .slice l n c] 25)).alloc (.cells #[.int .i64 k', .int .i64 i', .int .u64 b', .string ⟨t'.toArray⟩, .slice l' n' c'] 25) = w1 at *
  obtain ⟨q, hq⟩ : ∃ q, q = w.heap.size + 1 := ⟨_, rfl⟩
  obtain ⟨p, hp⟩ : ∃ p, p = w.heap.size := ⟨_, rfl⟩
  rw [← hq] at hA'
  rw [← hp] at hA
  rw [← hq, ← hp]
  have HPQ := Lib.hid (And.intro hp hq)
  have x0 := hA.cell 0 rfl
  have x1 := hA.cell 1 rfl
  have x2 := hA.cell 2 rfl
  have x3 := hA.cell 3 rfl
  have x4 := hA.cell 4 rfl
  have y0 := hA'.cell 0 rfl
  have y1 := hA'.cell 1 rfl
  have y2 := hA'.cell 2 rfl
  have y3 := hA'.cell 3 rfl
  have y4 := hA'.cell 4 rfl
  have HB := Lib.hid hB
  clear hA hA' hB hp hq
  generalize hpp : eqF kids g = pp
  have HPP := Lib.hid hpp
  clear hpp
  by_cases hkk : k = k'
  rotate_left
  · go_wp2_with fail
    go_ret2
    exact ⟨by simp [eqOne, hkk], HB.out⟩
  subst hkk
  by_cases hk : k = 7
  · subst hk
    go_wp2_with fail
    go_ret2
    exact ⟨by simp [eqOne], HB.out⟩
  by_cases hk8 : k = 8
  · subst hk8
    go_wp2_with fail
    go_ret2
    exact ⟨by simp [eqOne], HB.out⟩
  by_cases hk3 : k = 3
  · subst hk3
    have hfb := fb52 b
    have hfb' := fb52 b'
    have hfe := feq_run b b'
    have HKEEP := Lib.hid (show ∀ wx, Below w1.heap.size w1 wx → wx.cell? ⟨p, 2, none⟩ = some (.int .u64 b) ∧ wx.cell? ⟨q, 2, none⟩ = some (.int .u64 b') from fun wx hx => ⟨cellAt hx x2, cellAt hx y2⟩)
    go_wp2_with fail
    go_region_held3 (fun wx : World => wx.cell? ⟨p, 2, none⟩ = some (.int .u64 b) ∧ wx.cell? ⟨q, 2, none⟩ = some (.int .u64 b'))
      (first | exact HKEEP.out _ (Below.refl _ _) | exact HKEEP.out _ (Below.refl _ _).drew)
      (fail)
    all_goals
      go_wp2_with fail
      go_ret2
      exact ⟨by simp [eqOne, feq], HB.out.trans ((Below.refl _ _).drew.mono HB.out.size)⟩
  by_cases hk9 : k = 9
  · subst hk9
    obtain ⟨k1, i1, b1, t1, ks1, k2, i2, b2, t2, ks2, rfl⟩ := two_kids (H9.out.1 rfl)
    obtain ⟨k3, i3, b3, t3, ks3, k4, i4, b4, t4, ks4, rfl⟩ := two_kids (H9.out.2 rfl)
    obtain ⟨bb, off, a1, n1, cp1, rfl, hkF1, e0, e1, e2, e3, e4, _, hjn⟩ := FoAt.elem (dn := .nil) HF.out
    obtain ⟨_, _, a2, n2, cp2, e, hkF2, f0, f1, f2, f3, f4, _, hjn2⟩ := FoAt.elem (dn := .cons k1 i1 b1 t1 ks1 .nil) HF.out
    cases e
    obtain ⟨bb', off', a3, n3, cp3, rfl, hkG1, g0, g1, g2, g3, g4, _, hjm⟩ := FoAt.elem (dn := .nil) HG.out
    obtain ⟨_, _, a4, n4, cp4, e, hkG2, h0, h1, h2, h3, h4, _, hjm2⟩ := FoAt.elem (dn := .cons k3 i3 b3 t3 ks3 .nil) HG.out
    cases e
    replace hjn : 0 < n := hjn
    replace hjn2 : 1 < n := hjn2
    replace hjm : 0 < n' := hjm
    replace hjm2 : 1 < n' := hjm2
    have hz0 : (0 : Int) < (n : Int) := by have : (0 : Nat) < n := hjn; omega
    have hz1 : (1 : Int) < (n : Int) := by have : (1 : Nat) < n := hjn2; omega
    have hy0 : (0 : Int) < (n' : Int) := by have : (0 : Nat) < n' := hjm; omega
    have hy1 : (1 : Int) < (n' : Int) := by have : (1 : Nat) < n' := hjm2; omega
    have hal := HALL.out
    have hsh := HSH.out
    have HC1 := Lib.hid (fun (wx : World) (hx : Below w1.heap.size w1 wx) => hal.1 ks3 k1 i1 b1 k3 i3 b3 t1 t3 a1 a3 n1 cp1 n3 cp3 S wx (hkF1.same (w' := wx) (fun x _ hlt => hx.block x hlt) (fun x hx2 _ => hx2)) (hkG1.same (w' := wx) (fun x _ hlt => hx.block x hlt) (fun x hx2 _ => hx2)) (fun x hx2 => Nat.lt_of_lt_of_le (HS.out x hx2) (Nat.le_trans HB.out.size hx.size)) hsh.1.1.1 hsh.2.1.1 hsh.1.2.1 hsh.2.2.1)
    have HC2 := Lib.hid (fun (wx : World) (hx : Below w1.heap.size w1 wx) => hal.2.1 ks4 k2 i2 b2 k4 i4 b4 t2 t4 a2 a4 n2 cp2 n4 cp4 S wx (hkF2.same (w' := wx) (fun x _ hlt => hx.block x hlt) (fun x hx2 _ => hx2)) (hkG2.same (w' := wx) (fun x _ hlt => hx.block x hlt) (fun x hx2 _ => hx2)) (fun x hx2 => Nat.lt_of_lt_of_le (HS.out x hx2) (Nat.le_trans HB.out.size hx.size)) hsh.1.2.2.1.1 hsh.2.2.2.1.1 hsh.1.2.2.2.1 hsh.2.2.2.2.1)
    have HK1 := Lib.hid (show ∀ wx, Below w1.heap.size w1 wx → (wx.cell? ⟨p, 4, none⟩ = some (.slice (some ⟨bb, off, none⟩) n c) ∧ wx.cell? ⟨q, 4, none⟩ = some (.slice (some ⟨bb', off', none⟩) n' c')) ∧ (wx.cell? ⟨bb, off, none⟩ = some (.int .i64 k1) ∧ wx.cell? ⟨bb, off + 1, none⟩ = some (.int .i64 i1) ∧ wx.cell? ⟨bb, off + 2, none⟩ = some (.int .u64 b1) ∧ wx.cell? ⟨bb, off + 3, none⟩ = some (.string ⟨t1.toArray⟩) ∧ wx.cell? ⟨bb, off + 4, none⟩ = some (.slice a1 n1 cp1)) ∧ (wx.cell? ⟨bb', off', none⟩ = some (.int .i64 k3) ∧ wx.cell? ⟨bb', off' + 1, none⟩ = some (.int .i64 i3) ∧ wx.cell? ⟨bb', off' + 2, none⟩ = some (.int .u64 b3) ∧ wx.cell? ⟨bb', off' + 3, none⟩ = some (.string ⟨t3.toArray⟩) ∧ wx.cell? ⟨bb', off' + 4, none⟩ = some (.slice a3 n3 cp3)) from fun wx hx => ⟨⟨cellAt hx x4, cellAt hx y4⟩, ⟨cellAt hx e0, cellAt hx e1, cellAt hx e2, cellAt hx e3, cellAt hx e4⟩, ⟨cellAt hx g0, cellAt hx g1, cellAt hx g2, cellAt hx g3, cellAt hx g4⟩⟩)
    have HK2 := Lib.hid (show ∀ wx, Below w1.heap.size w1 wx → (wx.cell? ⟨p, 4, none⟩ = some (.slice (some ⟨bb, off, none⟩) n c) ∧ wx.cell? ⟨q, 4, none⟩ = some (.slice (some ⟨bb', off', none⟩) n' c')) ∧ (wx.cell? ⟨bb, off + 5, none⟩ = some (.int .i64 k2) ∧ wx.cell? ⟨bb, off + 6, none⟩ = some (.int .i64 i2) ∧ wx.cell? ⟨bb, off + 7, none⟩ = some (.int .u64 b2) ∧ wx.cell? ⟨bb, off + 8, none⟩ = some (.string ⟨t2.toArray⟩) ∧ wx.cell? ⟨bb, off + 9, none⟩ = some (.slice a2 n2 cp2)) ∧ (wx.cell? ⟨bb', off' + 5, none⟩ = some (.int .i64 k4) ∧ wx.cell? ⟨bb', off' + 6, none⟩ = some (.int .i64 i4) ∧ wx.cell? ⟨bb', off' + 7, none⟩ = some (.int .u64 b4) ∧ wx.cell? ⟨bb', off' + 8, none⟩ = some (.string ⟨t4.toArray⟩) ∧ wx.cell? ⟨bb', off' + 9, none⟩ = some (.slice a4 n4 cp4)) from fun wx hx => ⟨⟨cellAt hx x4, cellAt hx y4⟩, ⟨cellAt hx f0, cellAt hx f1, cellAt hx f2, cellAt hx f3, cellAt hx f4⟩, ⟨cellAt hx h0, cellAt hx h1, cellAt hx h2, cellAt hx h3, cellAt hx h4⟩⟩)
    have hpp := HPP.out
    simp only [eqF] at hpp
    rw [nrm_two (eqOne_nrm (eqF_nrm ks2 ks4))] at hpp
    have hN := eqOne_nrm (k := k1) (i := i1) (b := b1) (t := t1) (k' := k3) (i' := i3) (b' := b3) (t' := t3) (eqF_nrm ks1 ks3)
    generalize eqOne k1 i1 b1 t1 k3 i3 b3 t3 (eqF ks1 ks3) = r1 at *
    generalize eqOne k2 i2 b2 t2 k4 i4 b4 t4 (eqF ks2 ks4) = r2 at *
    have HPQ2 := Lib.hid hpp
    obtain ⟨s1, s2⟩ := r2
    clear hkF1 hkF2 hkG1 hkG2 hal hsh hpp H9 HSH HALL HF HG x1 x2 x3 y1 y2 y3 e0 e1 e2 e3 e4 f0 f1 f2 f3 f4 g0 g1 g2 g3 g4 h0 h1 h2 h3 h4
    rcases hN with rfl | rfl | rfl
    · go_wp2_with fail
      go_region_held3 (fun wx : World => (wx.cell? ⟨p, 4, none⟩ = some (.slice (some ⟨bb, off, none⟩) n c) ∧ wx.cell? ⟨q, 4, none⟩ = some (.slice (some ⟨bb', off', none⟩) n' c')) ∧ (wx.cell? ⟨bb, off, none⟩ = some (.int .i64 k1) ∧ wx.cell? ⟨bb, off + 1, none⟩ = some (.int .i64 i1) ∧ wx.cell? ⟨bb, off + 2, none⟩ = some (.int .u64 b1) ∧ wx.cell? ⟨bb, off + 3, none⟩ = some (.string ⟨t1.toArray⟩) ∧ wx.cell? ⟨bb, off + 4, none⟩ = some (.slice a1 n1 cp1)) ∧ (wx.cell? ⟨bb', off', none⟩ = some (.int .i64 k3) ∧ wx.cell? ⟨bb', off' + 1, none⟩ = some (.int .i64 i3) ∧ wx.cell? ⟨bb', off' + 2, none⟩ = some (.int .u64 b3) ∧ wx.cell? ⟨bb', off' + 3, none⟩ = some (.string ⟨t3.toArray⟩) ∧ wx.cell? ⟨bb', off' + 4, none⟩ = some (.slice a3 n3 cp3)))
        (first | exact HK1.out _ (Below.refl _ _) | exact HK1.out _ (Below.refl _ _).drew | exact HK1.out _ HA.out)
        (first
          | (go_simp; go_at_call 45; (with_reducible refine (HC1.out _ (Below.refl _ _).drew).mono ?_); rintro eA wA ⟨rfl, hbA⟩; have HA := Lib.hid ((Below.refl w1.heap.size w1).drew.trans hbA); clear hbA))
      all_goals
        go_wp2_with fail
        go_region_held3 (fun wx : World => (wx.cell? ⟨p, 4, none⟩ = some (.slice (some ⟨bb, off, none⟩) n c) ∧ wx.cell? ⟨q, 4, none⟩ = some (.slice (some ⟨bb', off', none⟩) n' c')) ∧ (wx.cell? ⟨bb, off + 5, none⟩ = some (.int .i64 k2) ∧ wx.cell? ⟨bb, off + 6, none⟩ = some (.int .i64 i2) ∧ wx.cell? ⟨bb, off + 7, none⟩ = some (.int .u64 b2) ∧ wx.cell? ⟨bb, off + 8, none⟩ = some (.string ⟨t2.toArray⟩) ∧ wx.cell? ⟨bb, off + 9, none⟩ = some (.slice a2 n2 cp2)) ∧ (wx.cell? ⟨bb', off' + 5, none⟩ = some (.int .i64 k4) ∧ wx.cell? ⟨bb', off' + 6, none⟩ = some (.int .i64 i4) ∧ wx.cell? ⟨bb', off' + 7, none⟩ = some (.int .u64 b4) ∧ wx.cell? ⟨bb', off' + 8, none⟩ = some (.string ⟨t4.toArray⟩) ∧ wx.cell? ⟨bb', off' + 9, none⟩ = some (.slice a4 n4 cp4)))
          (first | exact HK2.out _ HA.out | exact HK2.out _ HA.out.drew | exact HK2.out _ (HA.out.trans HBB.out))
          (first
            | (go_simp; go_at_call 45; (with_reducible refine (HC2.out _ HA.out.drew).mono ?_); rintro eB wB ⟨rfl, hbB⟩; have HBB := Lib.hid (((Below.refl w1.heap.size wA).drew).trans (hbB.mono (by have := HA.out.size; simpa using this))); clear hbB))
        all_goals
          go_wp2_with fail
          go_ret2
          exact ⟨by rw [HPP.out, ← HPQ2.out]; simp [eqOne], HB.out.trans ((HA.out.trans HBB.out).mono HB.out.size)⟩
    · go_wp2_with fail
      go_region_held3 (fun wx : World => (wx.cell? ⟨p, 4, none⟩ = some (.slice (some ⟨bb, off, none⟩) n c) ∧ wx.cell? ⟨q, 4, none⟩ = some (.slice (some ⟨bb', off', none⟩) n' c')) ∧ (wx.cell? ⟨bb, off, none⟩ = some (.int .i64 k1) ∧ wx.cell? ⟨bb, off + 1, none⟩ = some (.int .i64 i1) ∧ wx.cell? ⟨bb, off + 2, none⟩ = some (.int .u64 b1) ∧ wx.cell? ⟨bb, off + 3, none⟩ = some (.string ⟨t1.toArray⟩) ∧ wx.cell? ⟨bb, off + 4, none⟩ = some (.slice a1 n1 cp1)) ∧ (wx.cell? ⟨bb', off', none⟩ = some (.int .i64 k3) ∧ wx.cell? ⟨bb', off' + 1, none⟩ = some (.int .i64 i3) ∧ wx.cell? ⟨bb', off' + 2, none⟩ = some (.int .u64 b3) ∧ wx.cell? ⟨bb', off' + 3, none⟩ = some (.string ⟨t3.toArray⟩) ∧ wx.cell? ⟨bb', off' + 4, none⟩ = some (.slice a3 n3 cp3)))
        (first | exact HK1.out _ (Below.refl _ _) | exact HK1.out _ (Below.refl _ _).drew | exact HK1.out _ HA.out)
        (first
          | (go_simp; go_at_call 45; (with_reducible refine (HC1.out _ (Below.refl _ _).drew).mono ?_); rintro eA wA ⟨rfl, hbA⟩; have HA := Lib.hid ((Below.refl w1.heap.size w1).drew.trans hbA); clear hbA))
      all_goals
        go_wp2_with fail
        go_ret2
        exact ⟨by rw [HPP.out, ← HPQ2.out]; simp [eqOne], HB.out.trans (HA.out.mono HB.out.size)⟩
    · go_wp2_with fail
      go_region_held3 (fun wx : World => (wx.cell? ⟨p, 4, none⟩ = some (.slice (some ⟨bb, off, none⟩) n c) ∧ wx.cell? ⟨q, 4, none⟩ = some (.slice (some ⟨bb', off', none⟩) n' c')) ∧ (wx.cell? ⟨bb, off, none⟩ = some (.int .i64 k1) ∧ wx.cell? ⟨bb, off + 1, none⟩ = some (.int .i64 i1) ∧ wx.cell? ⟨bb, off + 2, none⟩ = some (.int .u64 b1) ∧ wx.cell? ⟨bb, off + 3, none⟩ = some (.string ⟨t1.toArray⟩) ∧ wx.cell? ⟨bb, off + 4, none⟩ = some (.slice a1 n1 cp1)) ∧ (wx.cell? ⟨bb', off', none⟩ = some (.int .i64 k3) ∧ wx.cell? ⟨bb', off' + 1, none⟩ = some (.int .i64 i3) ∧ wx.cell? ⟨bb', off' + 2, none⟩ = some (.int .u64 b3) ∧ wx.cell? ⟨bb', off' + 3, none⟩ = some (.string ⟨t3.toArray⟩) ∧ wx.cell? ⟨bb', off' + 4, none⟩ = some (.slice a3 n3 cp3)))
        (first | exact HK1.out _ (Below.refl _ _) | exact HK1.out _ (Below.refl _ _).drew | exact HK1.out _ HA.out)
        (first
          | (go_simp; go_at_call 45; (with_reducible refine (HC1.out _ (Below.refl _ _).drew).mono ?_); rintro eA wA ⟨rfl, hbA⟩; have HA := Lib.hid ((Below.refl w1.heap.size w1).drew.trans hbA); clear hbA))
      all_goals
        go_wp2_with fail
        go_ret2
        exact ⟨by rw [HPP.out, ← HPQ2.out]; simp [eqOne], HB.out.trans (HA.out.mono HB.out.size)⟩
  cases hi : (i == i')
  · go_wp2_with fail
    go_ret2
    exact ⟨by simp [eqOne, hk, hk8, hk3, hk9, hi], HB.out⟩
  · go_wp2_with fail
    go_ret2
    exact ⟨by simp [eqOne, hk, hk8, hk3, hk9, hi], HB.out⟩
theorem reqAll : ∀ f : Fo, f.All REQ
  | .nil => trivial
  | .cons _ _ _ _ kids rest => ⟨reqN (reqAll kids), reqAll rest⟩
theorem reqG (kids : Fo) : REQ kids := reqN (reqAll kids)
end Go.Proofs.YtbldidiibkcelaaGreatDoor

/-
  The document's Equal of two errors (walk). Not a statement of the seat.
-/
namespace Go.Proofs.YtbldidiibkcelaaGreatDoor
open Go.RowKit

/-- == of two errors: what it answers, or gives up with -/
def eqE (k i c : Int) (t : Bs) (b : Dt) (k' i' c' : Int) (t' : Bs) (b' : Dt) : Bool × Int :=
  if k ≠ k' then (false, 0) else if k = 1 ∨ k = 10 then (c == c' && t == t', 0) else if k = 5 then eqD b b' else if k = 6 then (false, 10) else (i == i', 0)
theorem eqE_nrm (k i c : Int) (t : Bs) (b : Dt) (k' i' c' : Int) (t' : Bs) (b' : Dt) : nrm (eqE k i c t b k' i' c' t' b') := by
  have hb : ∀ x : Bool, nrm (x, 0) := fun x => by cases x <;> simp [nrm]
  unfold eqE
  split
  · exact hb _
  · split
    · exact hb _
    · split
      · exact eqOne_nrm (eqF_nrm _ _)
      · split
        · exact .inr (.inr rfl)
        · exact hb _
/-- a value that may be compared -/
def okB (b : Dt) : Prop := fitsM b.k b.i b.b b.t b.l.len = true ∧ rightM b.l = true ∧ sizeF b.l ≤ 100000
theorem okB_of {b : Dt} (h : validD b = true) : okB b := by
  rw [valid_eq] at h
  by_cases hk : okD b
  · obtain ⟨h1, _, h3⟩ := hk
    rw [right_fo, Bool.and_eq_true] at h3
    exact ⟨h3.1, h3.2, by omega⟩
  · rw [(valid_bad hk).2] at h; cases h
theorem okB.two {b : Dt} (h : okB b) : b.k = 9 → b.l.len = 2 := fun e => by
  have := h.1
  rw [e] at this
  simp [fitsM] at this
  omega
def ktM (k : Int) : Int := if k = 7 then 2 else k
set_option maxRecDepth 100000 in
theorem ktN (k : Int) (w : World) : Calls Tryz.prog 44 #[.int .i64 k] w (fun e w' => e = .returned (.int .i64 (ktM k)) ∧ w' = w) := by
  by_cases h7 : k = 7
  · subst h7
    go_enter Tryz.func44, Tryz.ntmps44
    go_wp2_with fail
    go_ret
    exact ⟨rfl, rfl⟩
  · have he : (k == 7) = false := by simpa using h7
    have H7 := Lib.hid h7
    clear h7
    go_enter Tryz.func44, Tryz.ntmps44
    go_wp2_with fail
    go_ret
    exact ⟨by simp [ktM, H7.out], rfl⟩

set_option maxRecDepth 100000 in
set_option maxHeartbeats 16000000 in
theorem ereqN {k i c : Int} {t : Bs} {b : Dt} {bl : Option Addr} {bn bc : Nat} {cl : Option Addr} {cn cc : Nat} {l : Option Addr} {n cap : Nat} {k' i' c' : Int} {t' : Bs} {b' : Dt} {bl' : Option Addr} {bn' bc' : Nat} {cl' : Option Addr} {cn' cc' : Nat} {l' : Option Addr} {n' cap' : Nat} {S : Nat → Prop} {w : World}
    (hF : FoAt S w b.l bl bn bc) (hG : FoAt S w b'.l bl' bn' bc') (hS : ∀ x, S x → x < w.heap.size) (h5 : k = 5 → okB b) (h5' : k' = 5 → okB b') :
    Calls Tryz.prog 13 #[vE k i c t b bl bn bc cl cn cc l n cap, vE k' i' c' t' b' bl' bn' bc' cl' cn' cc' l' n' cap'] w (fun e w' => e = .returned (.tuple #[.bool (eqE k i c t b k' i' c' t' b').1, .int .i64 (eqE k i c t b k' i' c' t' b').2]) ∧ Below w.heap.size w w') := by
  obtain ⟨hA, hA', hB, _⟩ := ebox2_facts w k i c t b bl bn bc cl cn cc l n cap k' i' c' t' b' bl' bn' bc' cl' cn' cc' l' n' cap'
  generalize hres : eqE k i c t b k' i' c' t' b' = res
  unfold vE
  go_enter Tryz.func13, Tryz.ntmps13
  go_upto_region 1 with (fail)
  change Code.wp _ _ _ _ (ebox2 w k i c t b bl bn bc cl cn cc l n cap k' i' c' t' b' bl' bn' bc' cl' cn' cc' l' n' cap')
  generalize ebox2 w k i c t b bl bn bc cl cn cc l n cap k' i' c' t' b' bl' bn' bc' cl' cn' cc' l' n' cap' = w1 at *
  obtain ⟨q, hqq⟩ : ∃ x, x = w.heap.size + 1 := ⟨_, rfl⟩
  obtain ⟨p, hpp⟩ : ∃ x, x = w.heap.size := ⟨_, rfl⟩
  rw [← hqq] at hA'
  rw [← hpp] at hA
  rw [← hqq, ← hpp]
  have HX := Lib.hid (And.intro hA hA')
  have HB := Lib.hid hB
  have HKT := Lib.hid (fun (x : Int) (wx : World) => ktN x wx)
  have HK := Lib.hid (show ∀ wx, Below w1.heap.size w1 wx → (wx.cell? ⟨p, 0, none⟩ = some (.int .i64 k) ∧ wx.cell? ⟨q, 0, none⟩ = some (.int .i64 k')) from fun wx hx => ⟨(hA.below hx).cell 0 rfl, (hA'.below hx).cell 0 rfl⟩)
  have HC := Lib.hid (fun (wx : World) (hx : Below w.heap.size w wx) (hk : k = 5) (hk' : k' = 5) => show Calls Tryz.prog 45 #[.agg #[.int .i64 b.k, .int .i64 b.i, .int .u64 b.b, .string ⟨b.t.toArray⟩, .slice bl bn bc], .agg #[.int .i64 b'.k, .int .i64 b'.i, .int .u64 b'.b, .string ⟨b'.t.toArray⟩, .slice bl' bn' bc']] wx (fun e w' => e = .returned (.tuple #[.bool (eqD b b').1, .int .i64 (eqD b b').2]) ∧ Below wx.heap.size wx w') from
    reqG b.l b'.l b.k b.i b.b b'.k b'.i b'.b b.t b'.t bl bl' bn bc bn' bc' S wx (hF.same (w' := wx) (fun x _ hlt => hx.block x hlt) (fun x hx2 _ => hx2)) (hG.same (w' := wx) (fun x _ hlt => hx.block x hlt) (fun x hx2 _ => hx2)) (fun x hx2 => Nat.lt_of_lt_of_le (hS x hx2) hx.size) (h5 hk).two (h5' hk').two (shape_right _ (h5 hk).2.1) (shape_right _ (h5' hk').2.1))
  have hsz := HB.out.size
  clear hF hG hS h5 h5' hA hA' hB hqq hpp hsz
  have HD := Lib.hid (show eqD b b' = eqD b b' from rfl)
  have HRES := Lib.hid hres
  clear hres
  by_cases hkt : ktM k = ktM k'
  rotate_left
  · have hne : (ktM k != ktM k') = true := by simpa using hkt
    have HE := Lib.hid (show (false, (0 : Int)) = res by rw [← HRES.out]; unfold eqE; rw [if_pos]; rintro rfl; exact hkt rfl)
    clear hkt HRES
    go_region_held3 (fun wx : World => wx.cell? ⟨p, 0, none⟩ = some (.int .i64 k) ∧ wx.cell? ⟨q, 0, none⟩ = some (.int .i64 k'))
      (first | exact HK.out _ (Below.refl _ _) | exact HK.out _ (Below.refl _ _).drew)
      (first
        | (go_simp; go_at_call 44; (with_reducible refine (HKT.out _ _).mono ?_); rintro eA wA ⟨rfl, rfl⟩))
    all_goals
      have hx := (HX.out.1.below (Below.refl _ _).drew); have hy := (HX.out.2.below (Below.refl _ _).drew); have x0 := hx.cell 0 rfl; have y0 := hy.cell 0 rfl; have x1 := hx.cell 1 rfl; have y1 := hy.cell 1 rfl; have x2 := hx.cell 2 rfl; have y2 := hy.cell 2 rfl; have x3 := hx.cell 3 rfl; have y3 := hy.cell 3 rfl; have x4 := hx.cell 4 rfl; have y4 := hy.cell 4 rfl; have x5 := hx.cell 5 rfl; have y5 := hy.cell 5 rfl; have x6 := hx.cell 6 rfl; have y6 := hy.cell 6 rfl; have x7 := hx.cell 7 rfl; have y7 := hy.cell 7 rfl; have x8 := hx.cell 8 rfl; have y8 := hy.cell 8 rfl; clear hx hy
      go_wp2_with fail
      go_ret2
      exact ⟨by rw [← HE.out]; rfl, HB.out.trans ((Below.refl _ _).drew.mono HB.out.size)⟩
  have hne : (ktM k != ktM k') = false := by simp [hkt]
  have HKE := Lib.hid hkt
  clear hkt
  by_cases h6 : k = 6
  · have hk6 : k' = 6 := by have := HKE.out; unfold ktM at this; split at this <;> split at this <;> omega
    have e6 : (k == 6) = true := by simp [h6]
    have HE := Lib.hid (show (false, (10 : Int)) = res by rw [← HRES.out, h6, hk6]; rfl)
    clear h6 hk6 HRES
    go_region_held3 (fun wx : World => wx.cell? ⟨p, 0, none⟩ = some (.int .i64 k) ∧ wx.cell? ⟨q, 0, none⟩ = some (.int .i64 k'))
      (first | exact HK.out _ (Below.refl _ _) | exact HK.out _ (Below.refl _ _).drew)
      (first
        | (go_simp; go_at_call 44; (with_reducible refine (HKT.out _ _).mono ?_); rintro eA wA ⟨rfl, rfl⟩))
    all_goals
      have hx := (HX.out.1.below (Below.refl _ _).drew); have hy := (HX.out.2.below (Below.refl _ _).drew); have x0 := hx.cell 0 rfl; have y0 := hy.cell 0 rfl; have x1 := hx.cell 1 rfl; have y1 := hy.cell 1 rfl; have x2 := hx.cell 2 rfl; have y2 := hy.cell 2 rfl; have x3 := hx.cell 3 rfl; have y3 := hy.cell 3 rfl; have x4 := hx.cell 4 rfl; have y4 := hy.cell 4 rfl; have x5 := hx.cell 5 rfl; have y5 := hy.cell 5 rfl; have x6 := hx.cell 6 rfl; have y6 := hy.cell 6 rfl; have x7 := hx.cell 7 rfl; have y7 := hy.cell 7 rfl; have x8 := hx.cell 8 rfl; have y8 := hy.cell 8 rfl; clear hx hy
      go_wp2_with fail
      go_ret2
      exact ⟨by rw [← HE.out]; rfl, HB.out.trans ((Below.refl _ _).drew.mono HB.out.size)⟩
  by_cases h5 : k = 5
  · have hk5 : k' = 5 := by have := HKE.out; unfold ktM at this; split at this <;> split at this <;> omega
    have e6 : (k == 6) = false := by simp [h5]
    have e5 : (k == 5) = true := by simp [h5]
    have HE := Lib.hid (show eqD b b' = res by rw [← HRES.out, h5, hk5]; rfl)
    have HC2 := Lib.hid (fun wx hx => HC.out wx hx h5 hk5)
    rw [HE.out] at HC2
    clear h5 hk5 HRES HE HC
    go_region_held3 (fun wx : World => wx.cell? ⟨p, 0, none⟩ = some (.int .i64 k) ∧ wx.cell? ⟨q, 0, none⟩ = some (.int .i64 k'))
      (first | exact HK.out _ (Below.refl _ _) | exact HK.out _ (Below.refl _ _).drew)
      (first
        | (go_simp; go_at_call 44; (with_reducible refine (HKT.out _ _).mono ?_); rintro eA wA ⟨rfl, rfl⟩))
    all_goals
      have hx := (HX.out.1.below (Below.refl _ _).drew); have hy := (HX.out.2.below (Below.refl _ _).drew); have x0 := hx.cell 0 rfl; have y0 := hy.cell 0 rfl; have x1 := hx.cell 1 rfl; have y1 := hy.cell 1 rfl; have x2 := hx.cell 2 rfl; have y2 := hy.cell 2 rfl; have x3 := hx.cell 3 rfl; have y3 := hy.cell 3 rfl; have x4 := hx.cell 4 rfl; have y4 := hy.cell 4 rfl; have x5 := hx.cell 5 rfl; have y5 := hy.cell 5 rfl; have x6 := hx.cell 6 rfl; have y6 := hy.cell 6 rfl; have x7 := hx.cell 7 rfl; have y7 := hy.cell 7 rfl; have x8 := hx.cell 8 rfl; have y8 := hy.cell 8 rfl; clear hx hy
      go_wp2_with (go_at_call 45; (with_reducible refine (HC2.out _ (HB.out.trans ((Below.refl _ _).drew.mono HB.out.size))).mono ?_); rintro eD wD ⟨rfl, hb⟩; have HBD := Lib.hid ((HB.out.trans ((Below.refl _ _).drew.mono HB.out.size)).trans (hb.mono (HB.out.trans ((Below.refl _ _).drew.mono HB.out.size)).size)); clear hb)
      go_ret2
      exact ⟨rfl, HBD.out⟩
  by_cases h1 : k = 1 ∨ k = 10
  · have hk1 : k = k' := by have := HKE.out; unfold ktM at this; split at this <;> split at this <;> omega
    have e6 : (k == 6) = false := by simp; omega
    have e5 : (k == 5) = false := by simp; omega
    have HE := Lib.hid (show (c == c' && t == t', (0 : Int)) = res by rw [← HRES.out]; unfold eqE; rw [if_neg (fun h => h hk1), if_pos h1])
    clear HRES
    rcases h1 with h1 | h1
    · have e1 : (k == 1) = true := by simp [h1]
      clear h1 hk1
      cases hc : (c == c')
      · have HCC := Lib.hid hc
        go_region_held3 (fun wx : World => wx.cell? ⟨p, 0, none⟩ = some (.int .i64 k) ∧ wx.cell? ⟨q, 0, none⟩ = some (.int .i64 k'))
          (first | exact HK.out _ (Below.refl _ _) | exact HK.out _ (Below.refl _ _).drew)
          (first
            | (go_simp; go_at_call 44; (with_reducible refine (HKT.out _ _).mono ?_); rintro eA wA ⟨rfl, rfl⟩))
        all_goals
          have hx := (HX.out.1.below (Below.refl _ _).drew); have hy := (HX.out.2.below (Below.refl _ _).drew); have x0 := hx.cell 0 rfl; have y0 := hy.cell 0 rfl; have x1 := hx.cell 1 rfl; have y1 := hy.cell 1 rfl; have x2 := hx.cell 2 rfl; have y2 := hy.cell 2 rfl; have x3 := hx.cell 3 rfl; have y3 := hy.cell 3 rfl; have x4 := hx.cell 4 rfl; have y4 := hy.cell 4 rfl; have x5 := hx.cell 5 rfl; have y5 := hy.cell 5 rfl; have x6 := hx.cell 6 rfl; have y6 := hy.cell 6 rfl; have x7 := hx.cell 7 rfl; have y7 := hy.cell 7 rfl; have x8 := hx.cell 8 rfl; have y8 := hy.cell 8 rfl; clear hx hy
          go_wp2_with fail
          go_ret2
          exact ⟨by rw [← HE.out, HCC.out]; rfl, HB.out.trans ((Below.refl _ _).drew.mono HB.out.size)⟩
      · have HCC := Lib.hid hc
        cases ht : (t == t')
        · have HTT := Lib.hid ht
          go_region_held3 (fun wx : World => wx.cell? ⟨p, 0, none⟩ = some (.int .i64 k) ∧ wx.cell? ⟨q, 0, none⟩ = some (.int .i64 k'))
            (first | exact HK.out _ (Below.refl _ _) | exact HK.out _ (Below.refl _ _).drew)
            (first
              | (go_simp; go_at_call 44; (with_reducible refine (HKT.out _ _).mono ?_); rintro eA wA ⟨rfl, rfl⟩))
          all_goals
            have hx := (HX.out.1.below (Below.refl _ _).drew); have hy := (HX.out.2.below (Below.refl _ _).drew); have x0 := hx.cell 0 rfl; have y0 := hy.cell 0 rfl; have x1 := hx.cell 1 rfl; have y1 := hy.cell 1 rfl; have x2 := hx.cell 2 rfl; have y2 := hy.cell 2 rfl; have x3 := hx.cell 3 rfl; have y3 := hy.cell 3 rfl; have x4 := hx.cell 4 rfl; have y4 := hy.cell 4 rfl; have x5 := hx.cell 5 rfl; have y5 := hy.cell 5 rfl; have x6 := hx.cell 6 rfl; have y6 := hy.cell 6 rfl; have x7 := hx.cell 7 rfl; have y7 := hy.cell 7 rfl; have x8 := hx.cell 8 rfl; have y8 := hy.cell 8 rfl; clear hx hy
            go_wp2_with fail
            go_ret2
            exact ⟨by rw [← HE.out, HCC.out, HTT.out]; rfl, HB.out.trans ((Below.refl _ _).drew.mono HB.out.size)⟩
        · have HTT := Lib.hid ht
          go_region_held3 (fun wx : World => wx.cell? ⟨p, 0, none⟩ = some (.int .i64 k) ∧ wx.cell? ⟨q, 0, none⟩ = some (.int .i64 k'))
            (first | exact HK.out _ (Below.refl _ _) | exact HK.out _ (Below.refl _ _).drew)
            (first
              | (go_simp; go_at_call 44; (with_reducible refine (HKT.out _ _).mono ?_); rintro eA wA ⟨rfl, rfl⟩))
          all_goals
            have hx := (HX.out.1.below (Below.refl _ _).drew); have hy := (HX.out.2.below (Below.refl _ _).drew); have x0 := hx.cell 0 rfl; have y0 := hy.cell 0 rfl; have x1 := hx.cell 1 rfl; have y1 := hy.cell 1 rfl; have x2 := hx.cell 2 rfl; have y2 := hy.cell 2 rfl; have x3 := hx.cell 3 rfl; have y3 := hy.cell 3 rfl; have x4 := hx.cell 4 rfl; have y4 := hy.cell 4 rfl; have x5 := hx.cell 5 rfl; have y5 := hy.cell 5 rfl; have x6 := hx.cell 6 rfl; have y6 := hy.cell 6 rfl; have x7 := hx.cell 7 rfl; have y7 := hy.cell 7 rfl; have x8 := hx.cell 8 rfl; have y8 := hy.cell 8 rfl; clear hx hy
            go_wp2_with fail
            go_ret2
            exact ⟨by rw [← HE.out, HCC.out, HTT.out]; rfl, HB.out.trans ((Below.refl _ _).drew.mono HB.out.size)⟩
    · have e1 : (k == 1) = false := by simp [h1]
      have e10 : (k == 10) = true := by simp [h1]
      clear h1 hk1
      cases hc : (c == c')
      · have HCC := Lib.hid hc
        go_region_held3 (fun wx : World => wx.cell? ⟨p, 0, none⟩ = some (.int .i64 k) ∧ wx.cell? ⟨q, 0, none⟩ = some (.int .i64 k'))
          (first | exact HK.out _ (Below.refl _ _) | exact HK.out _ (Below.refl _ _).drew)
          (first
            | (go_simp; go_at_call 44; (with_reducible refine (HKT.out _ _).mono ?_); rintro eA wA ⟨rfl, rfl⟩))
        all_goals
          have hx := (HX.out.1.below (Below.refl _ _).drew); have hy := (HX.out.2.below (Below.refl _ _).drew); have x0 := hx.cell 0 rfl; have y0 := hy.cell 0 rfl; have x1 := hx.cell 1 rfl; have y1 := hy.cell 1 rfl; have x2 := hx.cell 2 rfl; have y2 := hy.cell 2 rfl; have x3 := hx.cell 3 rfl; have y3 := hy.cell 3 rfl; have x4 := hx.cell 4 rfl; have y4 := hy.cell 4 rfl; have x5 := hx.cell 5 rfl; have y5 := hy.cell 5 rfl; have x6 := hx.cell 6 rfl; have y6 := hy.cell 6 rfl; have x7 := hx.cell 7 rfl; have y7 := hy.cell 7 rfl; have x8 := hx.cell 8 rfl; have y8 := hy.cell 8 rfl; clear hx hy
          go_wp2_with fail
          go_ret2
          exact ⟨by rw [← HE.out, HCC.out]; rfl, HB.out.trans ((Below.refl _ _).drew.mono HB.out.size)⟩
      · have HCC := Lib.hid hc
        cases ht : (t == t')
        · have HTT := Lib.hid ht
          go_region_held3 (fun wx : World => wx.cell? ⟨p, 0, none⟩ = some (.int .i64 k) ∧ wx.cell? ⟨q, 0, none⟩ = some (.int .i64 k'))
            (first | exact HK.out _ (Below.refl _ _) | exact HK.out _ (Below.refl _ _).drew)
            (first
              | (go_simp; go_at_call 44; (with_reducible refine (HKT.out _ _).mono ?_); rintro eA wA ⟨rfl, rfl⟩))
          all_goals
            have hx := (HX.out.1.below (Below.refl _ _).drew); have hy := (HX.out.2.below (Below.refl _ _).drew); have x0 := hx.cell 0 rfl; have y0 := hy.cell 0 rfl; have x1 := hx.cell 1 rfl; have y1 := hy.cell 1 rfl; have x2 := hx.cell 2 rfl; have y2 := hy.cell 2 rfl; have x3 := hx.cell 3 rfl; have y3 := hy.cell 3 rfl; have x4 := hx.cell 4 rfl; have y4 := hy.cell 4 rfl; have x5 := hx.cell 5 rfl; have y5 := hy.cell 5 rfl; have x6 := hx.cell 6 rfl; have y6 := hy.cell 6 rfl; have x7 := hx.cell 7 rfl; have y7 := hy.cell 7 rfl; have x8 := hx.cell 8 rfl; have y8 := hy.cell 8 rfl; clear hx hy
            go_wp2_with fail
            go_ret2
            exact ⟨by rw [← HE.out, HCC.out, HTT.out]; rfl, HB.out.trans ((Below.refl _ _).drew.mono HB.out.size)⟩
        · have HTT := Lib.hid ht
          go_region_held3 (fun wx : World => wx.cell? ⟨p, 0, none⟩ = some (.int .i64 k) ∧ wx.cell? ⟨q, 0, none⟩ = some (.int .i64 k'))
            (first | exact HK.out _ (Below.refl _ _) | exact HK.out _ (Below.refl _ _).drew)
            (first
              | (go_simp; go_at_call 44; (with_reducible refine (HKT.out _ _).mono ?_); rintro eA wA ⟨rfl, rfl⟩))
          all_goals
            have hx := (HX.out.1.below (Below.refl _ _).drew); have hy := (HX.out.2.below (Below.refl _ _).drew); have x0 := hx.cell 0 rfl; have y0 := hy.cell 0 rfl; have x1 := hx.cell 1 rfl; have y1 := hy.cell 1 rfl; have x2 := hx.cell 2 rfl; have y2 := hy.cell 2 rfl; have x3 := hx.cell 3 rfl; have y3 := hy.cell 3 rfl; have x4 := hx.cell 4 rfl; have y4 := hy.cell 4 rfl; have x5 := hx.cell 5 rfl; have y5 := hy.cell 5 rfl; have x6 := hx.cell 6 rfl; have y6 := hy.cell 6 rfl; have x7 := hx.cell 7 rfl; have y7 := hy.cell 7 rfl; have x8 := hx.cell 8 rfl; have y8 := hy.cell 8 rfl; clear hx hy
            go_wp2_with fail
            go_ret2
            exact ⟨by rw [← HE.out, HCC.out, HTT.out]; rfl, HB.out.trans ((Below.refl _ _).drew.mono HB.out.size)⟩
  have e6 : (k == 6) = false := by simpa using h6
  have e5 : (k == 5) = false := by simpa using h5
  have e1 : (k == 1) = false := by simp; omega
  have e10 : (k == 10) = false := by simp; omega
  have HE := Lib.hid (show (k == k' && i == i', (0 : Int)) = res by
    rw [← HRES.out]
    unfold eqE
    by_cases hk : k = k'
    · rw [if_neg (fun h => h hk), if_neg h1, if_neg h5, if_neg h6, show (k == k') = true by simpa using hk]; rfl
    · rw [if_pos hk, show (k == k') = false by simpa using hk]; rfl)
  clear HRES h6 h5 h1
  cases hkk : (k == k')
  · have HKK := Lib.hid hkk
    go_region_held3 (fun wx : World => wx.cell? ⟨p, 0, none⟩ = some (.int .i64 k) ∧ wx.cell? ⟨q, 0, none⟩ = some (.int .i64 k'))
      (first | exact HK.out _ (Below.refl _ _) | exact HK.out _ (Below.refl _ _).drew)
      (first
        | (go_simp; go_at_call 44; (with_reducible refine (HKT.out _ _).mono ?_); rintro eA wA ⟨rfl, rfl⟩))
    all_goals
      have hx := (HX.out.1.below (Below.refl _ _).drew); have hy := (HX.out.2.below (Below.refl _ _).drew); have x0 := hx.cell 0 rfl; have y0 := hy.cell 0 rfl; have x1 := hx.cell 1 rfl; have y1 := hy.cell 1 rfl; have x2 := hx.cell 2 rfl; have y2 := hy.cell 2 rfl; have x3 := hx.cell 3 rfl; have y3 := hy.cell 3 rfl; have x4 := hx.cell 4 rfl; have y4 := hy.cell 4 rfl; have x5 := hx.cell 5 rfl; have y5 := hy.cell 5 rfl; have x6 := hx.cell 6 rfl; have y6 := hy.cell 6 rfl; have x7 := hx.cell 7 rfl; have y7 := hy.cell 7 rfl; have x8 := hx.cell 8 rfl; have y8 := hy.cell 8 rfl; clear hx hy
      go_wp2_with fail
      go_ret2
      exact ⟨by rw [← HE.out, HKK.out]; rfl, HB.out.trans ((Below.refl _ _).drew.mono HB.out.size)⟩
  · have HKK := Lib.hid hkk
    cases hii : (i == i')
    · have HII := Lib.hid hii
      go_region_held3 (fun wx : World => wx.cell? ⟨p, 0, none⟩ = some (.int .i64 k) ∧ wx.cell? ⟨q, 0, none⟩ = some (.int .i64 k'))
        (first | exact HK.out _ (Below.refl _ _) | exact HK.out _ (Below.refl _ _).drew)
        (first
          | (go_simp; go_at_call 44; (with_reducible refine (HKT.out _ _).mono ?_); rintro eA wA ⟨rfl, rfl⟩))
      all_goals
        have hx := (HX.out.1.below (Below.refl _ _).drew); have hy := (HX.out.2.below (Below.refl _ _).drew); have x0 := hx.cell 0 rfl; have y0 := hy.cell 0 rfl; have x1 := hx.cell 1 rfl; have y1 := hy.cell 1 rfl; have x2 := hx.cell 2 rfl; have y2 := hy.cell 2 rfl; have x3 := hx.cell 3 rfl; have y3 := hy.cell 3 rfl; have x4 := hx.cell 4 rfl; have y4 := hy.cell 4 rfl; have x5 := hx.cell 5 rfl; have y5 := hy.cell 5 rfl; have x6 := hx.cell 6 rfl; have y6 := hy.cell 6 rfl; have x7 := hx.cell 7 rfl; have y7 := hy.cell 7 rfl; have x8 := hx.cell 8 rfl; have y8 := hy.cell 8 rfl; clear hx hy
        go_wp2_with fail
        go_ret2
        exact ⟨by rw [← HE.out, HKK.out, HII.out]; rfl, HB.out.trans ((Below.refl _ _).drew.mono HB.out.size)⟩
    · have HII := Lib.hid hii
      go_region_held3 (fun wx : World => wx.cell? ⟨p, 0, none⟩ = some (.int .i64 k) ∧ wx.cell? ⟨q, 0, none⟩ = some (.int .i64 k'))
        (first | exact HK.out _ (Below.refl _ _) | exact HK.out _ (Below.refl _ _).drew)
        (first
          | (go_simp; go_at_call 44; (with_reducible refine (HKT.out _ _).mono ?_); rintro eA wA ⟨rfl, rfl⟩))
      all_goals
        have hx := (HX.out.1.below (Below.refl _ _).drew); have hy := (HX.out.2.below (Below.refl _ _).drew); have x0 := hx.cell 0 rfl; have y0 := hy.cell 0 rfl; have x1 := hx.cell 1 rfl; have y1 := hy.cell 1 rfl; have x2 := hx.cell 2 rfl; have y2 := hy.cell 2 rfl; have x3 := hx.cell 3 rfl; have y3 := hy.cell 3 rfl; have x4 := hx.cell 4 rfl; have y4 := hy.cell 4 rfl; have x5 := hx.cell 5 rfl; have y5 := hy.cell 5 rfl; have x6 := hx.cell 6 rfl; have y6 := hy.cell 6 rfl; have x7 := hx.cell 7 rfl; have y7 := hy.cell 7 rfl; have x8 := hx.cell 8 rfl; have y8 := hy.cell 8 rfl; clear hx hy
        go_wp2_with fail
        go_ret2
        exact ⟨by rw [← HE.out, HKK.out, HII.out]; rfl, HB.out.trans ((Below.refl _ _).drew.mono HB.out.size)⟩
end Go.Proofs.YtbldidiibkcelaaGreatDoor
