/-
  The document's key, the law's nan (walks). Not a statement of the seat.
-/
import Derived.Test.YtofpdhkdnbnobaaDoorREqual
import Derived.Test.YtofpdhkdnbnobaaDoorGroupP
import Derived.Laws.BitsAllLaws
namespace Go.Proofs.YtofpdhkdnbnobaaDoor
open Go.RowKit

def KYOK (kids : Fo) : Prop := ∀ (k i b : Int) (t : Bs) (l : Option Addr) (n c : Nat) (S : Nat → Prop) (w : World), FoAt S w kids l n c → (∀ x, S x → x < w.heap.size) → (k = 9 → kids.len = 2) → shapeF kids →
  Calls Tryd.prog 46 #[.agg #[.int .i64 k, .int .i64 i, .int .u64 b, .string ⟨t.toArray⟩, .slice l n c]] w (fun e w' => e = .returned (.bool (keyOne k (keyF kids))) ∧ Below w.heap.size w w')

set_option maxRecDepth 100000 in
set_option maxHeartbeats 8000000 in
theorem keyN {kids : Fo} (hall : kids.All KYOK) : KYOK kids := by
  intro k i b t l n c S w hF hS h9 hsh
  have hA := Blk.new w #[.int .i64 k, .int .i64 i, .int .u64 b, .string ⟨t.toArray⟩, .slice l n c] 25
  have hB : Below w.heap.size w (w.alloc (.cells #[.int .i64 k, .int .i64 i, .int .u64 b, .string ⟨t.toArray⟩, .slice l n c] 25)) := (Below.refl _ w).alloc (Nat.le_refl _) _
  have HF := Lib.hid (hF.same (w' := w.alloc (.cells #[.int .i64 k, .int .i64 i, .int .u64 b, .string ⟨t.toArray⟩, .slice l n c] 25)) (fun x hx hlt => hB.block x hlt) (fun x hx _ => hx))
  have HS := Lib.hid hS
  have HALL := Lib.hid hall
  have H9 := Lib.hid h9
  have HSH := Lib.hid hsh
  clear hF hS hall h9 hsh
  go_enter Tryd.func46, Tryd.ntmps46
  go_upto_region 1 with (fail)
  generalize w.alloc (.cells #[.int .i64 k, .int .i64 i, .int .u64 b, .string ⟨t.toArray⟩, .slice l n c] 25) = w1 at *
  obtain ⟨p, hp⟩ : ∃ p, p = w.heap.size := ⟨_, rfl⟩
  rw [← hp] at hA
  rw [← hp]
  have HB := Lib.hid hB
  have x0 := hA.cell 0 rfl
  have x4 := hA.cell 4 rfl
  clear hA hB hp
  by_cases hk9 : k = 9
  · subst hk9
    obtain ⟨k1, i1, b1, t1, ks1, k2, i2, b2, t2, ks2, rfl⟩ := two_kids (H9.out rfl)
    obtain ⟨bb, off, a1, n1, cp1, rfl, hkF1, e0, e1, e2, e3, e4, _, hjn⟩ := FoAt.elem (dn := .nil) HF.out
    obtain ⟨_, _, a2, n2, cp2, e, hkF2, f0, f1, f2, f3, f4, _, hjn2⟩ := FoAt.elem (dn := .cons k1 i1 b1 t1 ks1 .nil) HF.out
    cases e
    replace hjn : 0 < n := hjn
    replace hjn2 : 1 < n := hjn2
    have hz0 : (0 : Int) < (n : Int) := by have : (0 : Nat) < n := hjn; omega
    have hz1 : (1 : Int) < (n : Int) := by have : (1 : Nat) < n := hjn2; omega
    have hal := HALL.out
    have hsh := HSH.out
    have HC1 := Lib.hid (hal.1 k1 i1 b1 t1 a1 n1 cp1 S w1 hkF1 (fun x hx2 => Nat.lt_of_lt_of_le (HS.out x hx2) HB.out.size) hsh.1.1 hsh.2.1)
    have HC2 := Lib.hid (fun (wx : World) (hx : Below w1.heap.size w1 wx) => hal.2.1 k2 i2 b2 t2 a2 n2 cp2 S wx (hkF2.same (w' := wx) (fun x _ hlt => hx.block x hlt) (fun x hx2 _ => hx2)) (fun x hx2 => Nat.lt_of_lt_of_le (HS.out x hx2) (Nat.le_trans HB.out.size hx.size)) hsh.2.2.1.1 hsh.2.2.2.1)
    have hkk : keyOne 9 (keyF (.cons k1 i1 b1 t1 ks1 (.cons k2 i2 b2 t2 ks2 .nil))) = (keyOne k1 (keyF ks1) && keyOne k2 (keyF ks2)) := by simp [keyOne, keyF]
    have HKK := Lib.hid hkk
    generalize keyOne k1 (keyF ks1) = r1 at *
    generalize keyOne k2 (keyF ks2) = r2 at *
    replace e0 : w1.cell? ⟨bb, off, none⟩ = some (.int .i64 k1) := e0
    replace e1 : w1.cell? ⟨bb, off + 1, none⟩ = some (.int .i64 i1) := e1
    replace e2 : w1.cell? ⟨bb, off + 2, none⟩ = some (.int .u64 b1) := e2
    replace e3 : w1.cell? ⟨bb, off + 3, none⟩ = some (.string ⟨t1.toArray⟩) := e3
    replace e4 : w1.cell? ⟨bb, off + 4, none⟩ = some (.slice a1 n1 cp1) := e4
    replace f0 : w1.cell? ⟨bb, off + 5, none⟩ = some (.int .i64 k2) := f0
    replace f1 : w1.cell? ⟨bb, off + 6, none⟩ = some (.int .i64 i2) := f1
    replace f2 : w1.cell? ⟨bb, off + 7, none⟩ = some (.int .u64 b2) := f2
    replace f3 : w1.cell? ⟨bb, off + 8, none⟩ = some (.string ⟨t2.toArray⟩) := f3
    replace f4 : w1.cell? ⟨bb, off + 9, none⟩ = some (.slice a2 n2 cp2) := f4
    clear hkF1 hkF2 hal hsh H9 HSH HALL HF hkk
    cases r1
    · go_wp2_with (go_at_call 46; (with_reducible refine HC1.out.mono ?_); rintro eA wA ⟨rfl, hbA⟩; have HA := Lib.hid hbA; clear hbA)
      go_ret
      exact ⟨by rw [HKK.out]; rfl, HB.out.trans (HA.out.mono HB.out.size)⟩
    · go_wp2_with (first
        | (go_at_call 46; (with_reducible refine HC1.out.mono ?_); rintro eA wA ⟨rfl, hbA⟩; have HA := Lib.hid hbA; have x4' := cellAt hbA x4; have f0' := cellAt hbA f0; have f1' := cellAt hbA f1; have f2' := cellAt hbA f2; have f3' := cellAt hbA f3; have f4' := cellAt hbA f4; clear hbA x4 f0 f1 f2 f3 f4)
        | (go_at_call 46; (with_reducible refine (HC2.out _ HA.out).mono ?_); rintro eB wB ⟨rfl, hbB⟩; have HBB := Lib.hid (HA.out.trans (hbB.mono HA.out.size)); clear hbB))
      go_ret
      exact ⟨by rw [HKK.out]; simp, HB.out.trans (HBB.out.mono HB.out.size)⟩
  · by_cases h7 : k = 7
    · subst h7
      go_wp2_with fail
      go_ret
      exact ⟨by simp [keyOne], HB.out⟩
    · go_wp2_with fail
      go_ret
      exact ⟨by simp [keyOne, hk9], HB.out⟩
theorem keyAll : ∀ f : Fo, f.All KYOK
  | .nil => trivial
  | .cons _ _ _ _ kids rest => ⟨keyN (keyAll kids), keyAll rest⟩
theorem keyG (kids : Fo) : KYOK kids := keyN (keyAll kids)
end Go.Proofs.YtofpdhkdnbnobaaDoor
