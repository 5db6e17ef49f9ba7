/-
  The program's Same (walks). Not a statement of the seat.
-/
import Derived.Test.YtbldidiibkcelaaGreatDoorRSame
namespace Go.Proofs.YtbldidiibkcelaaGreatDoor
open Go.RowKit

def TOK (kids : Fo) : Prop := ∀ (g : Fo) (k i b k' i' b' : Int) (t t' : Bs) (l l' : Option Addr) (n c n' c' : Nat) (S : Nat → Prop) (w : World), FoAt S w kids l n c → FoAt S w g l' n' c' → (∀ x, S x → x < w.heap.size) →
  Calls Tryz.prog 46 #[.agg #[.int .i64 k, .int .i64 i, .int .u64 b, .string ⟨t.toArray⟩, .slice l n c], .agg #[.int .i64 k', .int .i64 i', .int .u64 b', .string ⟨t'.toArray⟩, .slice l' n' c']] w
    (fun e w' => e = .returned (.bool (headM k i b t n k' i' b' t' n' && sameM kids g)) ∧ Below w.heap.size w w')

set_option maxRecDepth 100000 in
set_option maxHeartbeats 16000000 in
theorem efN {kids : Fo} (hall : kids.All TOK) {g : Fo} {l l' : Option Addr} {n c n' c' : Nat} {S : Nat → Prop} {w : World} (hF : FoAt S w kids l n c) (hG : FoAt S w g l' n' c') (hS : ∀ x, S x → x < w.heap.size) :
    Calls Tryz.prog 82 #[.slice l n c, .slice l' n' c', .func (.func 46) #[] #[]] w (fun e w' => e = .returned (.bool (sameM kids g)) ∧ Below w.heap.size w w') := by
  have hnl := hF.len
  have hnl' := hG.len
  have HF := Lib.hid hF
  have HG := Lib.hid hG
  have HS := Lib.hid hS
  have HALL := Lib.hid hall
  clear hF hG hS hall
  by_cases hnn : n = n'
  · subst hnn
    have HNN := Lib.hid (hnl.trans hnl'.symm)
    clear hnl hnl'
    have hbe : ((n : Int) != (n : Int)) = false := by simp
    go_enter Tryz.func82, Tryz.ntmps82
    go_wp2_with fail
    go_loopw [17] (fun t17 wr => SRel kids g w t17 wr) (fun t17 _ => n - (intOf t17).toNat)
    case atStart => exact ⟨.nil, .nil, kids, g, rfl, rfl, rfl, rfl, Below.refl _ _, rfl⟩
    case round =>
      obtain ⟨dn, dn', rest, rest', rfl, hdl, hk, hk', hBw, hq⟩ := hrel
      have HBw := Lib.hid hBw
      have hF := HF.out.same (w' := wr) (fun x hx hlt => hBw.block x hlt) (fun x hx _ => hx)
      have hG := HG.out.same (w' := wr) (fun x hx hlt => hBw.block x hlt) (fun x hx _ => hx)
      have hlen := hF.len
      have hlen' := hG.len
      rw [hk, Fo.len_app] at hlen
      rw [hk', Fo.len_app] at hlen'
      clear hBw
      cases rest with
      | nil =>
        have hj : ¬ (dn.len : Int) < (n : Int) := by have : Fo.len .nil = 0 := rfl; omega
        cases rest' with
        | cons k2 i2 b2 t2 ks r2 =>
          have hlr : (Fo.cons k2 i2 b2 t2 ks r2).len = r2.len + 1 := rfl
          have : Fo.len .nil = 0 := rfl
          omega
        | nil =>
        have HR := Lib.hid hq
        clear hq hk hk' hlen hlen' hF hG hdl
        go_wp2_with fail
        go_ret
        exact ⟨by rw [HR.out]; rfl, HBw.out⟩
      | cons k2 i2 b2 t2 ks r2 =>
        have hlr : (Fo.cons k2 i2 b2 t2 ks r2).len = r2.len + 1 := rfl
        cases rest' with
        | nil =>
          have : Fo.len .nil = 0 := rfl
          omega
        | cons k3 i3 b3 t3 ks3 r3 =>
        rw [hk] at hF
        rw [hk'] at hG
        obtain ⟨bb, off, a2, n2, cp2, rfl, hkF, e0, e1, e2, e3, e4, hnb, hjn⟩ := hF.elem
        obtain ⟨bb', off', a3, n3, cp3, rfl, hgF, f0, f1, f2, f3, f4, hnb', hjn'⟩ := hG.elem
        rw [hdl] at f0 f1 f2 f3 f4
        have hj : (dn.len : Int) < (n : Int) := by omega
        have hOK : TOK ks := by
          have hal := HALL.out
          rw [hk] at hal
          exact (Fo.All.split dn hal).1
        have hkl := hkF.len
        have hgl := hgF.len
        have hsq : sameM (.cons k2 i2 b2 t2 ks r2) (.cons k3 i3 b3 t3 ks3 r3) = ((headM k2 i2 b2 t2 n2 k3 i3 b3 t3 n3 && sameM ks ks3) && sameM r2 r3) := by rw [sameM, hkl, hgl]; rfl
        rw [hsq] at hq
        have HC := Lib.hid (fun (wx : World) (hx : Below wr.heap.size wr wx) => hOK ks3 k2 i2 b2 k3 i3 b3 t2 t3 a2 a3 n2 cp2 n3 cp3 S wx (hkF.same (w' := wx) (fun x _ hlt => hx.block x hlt) (fun x hx2 _ => hx2)) (hgF.same (w' := wx) (fun x _ hlt => hx.block x hlt) (fun x hx2 _ => hx2)) (fun x hx2 => Nat.lt_of_lt_of_le (HS.out x hx2) (Nat.le_trans HBw.out.size hx.size)))
        have hab : Below wr.heap.size wr ((wr.alloc (.cells #[.int .i64 k2, .int .i64 i2, .int .u64 b2, .string ⟨t2.toArray⟩, .slice a2 n2 cp2] 25)).alloc (.cells #[.int .i64 k3, .int .i64 i3, .int .u64 b3, .string ⟨t3.toArray⟩, .slice a3 n3 cp3] 25)) := ((Below.refl _ _).alloc (Nat.le_refl _) _).alloc (by simp) _
        have hab1 : Below wr.heap.size wr (wr.alloc (.cells #[.int .i64 k2, .int .i64 i2, .int .u64 b2, .string ⟨t2.toArray⟩, .slice a2 n2 cp2] 25)) := (Below.refl _ _).alloc (Nat.le_refl _) _
        have f0' := cellAt hab1 f0
        have f1' := cellAt hab1 f1
        have f2' := cellAt hab1 f2
        have f3' := cellAt hab1 f3
        have f4' := cellAt hab1 f4
        have HAB := Lib.hid hab
        generalize (headM k2 i2 b2 t2 n2 k3 i3 b3 t3 n3 && sameM ks ks3) = fk at *
        have HKK := Lib.hid (And.intro hk hk')
        have HJ := Lib.hid hjn
        have HQ := Lib.hid hq
        have HDL := Lib.hid hdl
        clear hkF hgF hOK hk hk' hkl hgl hsq hq hlen hlen' hF hG hlr hdl hjn' hnb' hab hab1
        generalize hjj : dn.len = j at *
        have HJJ := Lib.hid hjj
        clear hjj
        cases fk
        · go_wp2_with (go_at_call 46; (with_reducible refine (HC.out _ HAB.out).mono ?_); rintro eA wA ⟨rfl, hbA⟩; have HBA := Lib.hid (HAB.out.trans (hbA.mono HAB.out.size)); clear hbA)
          go_ret
          exact ⟨by rw [HQ.out]; rfl, HBw.out.trans (HBA.out.mono HBw.out.size)⟩
        · go_wp2_with (go_at_call 46; (with_reducible refine (HC.out _ HAB.out).mono ?_); rintro eA wA ⟨rfl, hbA⟩; have HBA := Lib.hid (HAB.out.trans (hbA.mono HAB.out.size)); clear hbA)
          go_roundw
          case rel =>
            refine ⟨dn.app (.cons k2 i2 b2 t2 ks .nil), dn'.app (.cons k3 i3 b3 t3 ks3 .nil), r2, r3, ?_, ?_, ?_, ?_, HBw.out.trans (HBA.out.mono HBw.out.size), by rw [HQ.out]; simp⟩
            · rw [Fo.len_app, HJJ.out, show (Fo.cons k2 i2 b2 t2 ks .nil).len = 1 from rfl]; go_num
            · rw [Fo.len_app, Fo.len_app, HDL.out, HJJ.out]; rfl
            · rw [Fo.app_assoc]; exact HKK.out.1
            · rw [Fo.app_assoc]; exact HKK.out.2
          case measure => simp [intOf]; have := HJ.out; omega
  · have hne : sameM kids g = false := by
      cases h : sameM kids g
      · rfl
      · exact absurd (sameM_len kids g h) (by omega)
    rw [hne]
    have hbe : ((n : Int) != (n' : Int)) = true := by simp; omega
    go_enter Tryz.func82, Tryz.ntmps82
    go_wp2_with fail
    go_ret
    exact ⟨rfl, Below.refl _ _⟩
set_option maxRecDepth 100000 in
set_option maxHeartbeats 16000000 in
theorem sameN {kids : Fo} (hall : kids.All TOK) : TOK kids := by
  intro g k i b k' i' b' t t' l l' n c n' c' S w hF hG hS
  have hnl := hF.len
  have hnl' := hG.len
  have hA := (Blk.new w #[.int .i64 k, .int .i64 i, .int .u64 b, .string ⟨t.toArray⟩, .slice l n c] 25).alloc (.cells #[.int .i64 k', .int .i64 i', .int .u64 b', .string ⟨t'.toArray⟩, .slice l' n' c'] 25)
  have hA' := Blk.new (w.alloc (.cells #[.int .i64 k, .int .i64 i, .int .u64 b, .string ⟨t.toArray⟩, .slice l n c] 25)) #[.int .i64 k', .int .i64 i', .int .u64 b', .string ⟨t'.toArray⟩, .slice l' n' c'] 25
  have hs1 : (w.alloc (.cells #[.int .i64 k, .int .i64 i, .int .u64 b, .string ⟨t.toArray⟩, .slice l n c] 25)).heap.size = w.heap.size + 1 := by simp
  rw [hs1] at hA'
  have hB : Below w.heap.size w ((w.alloc (.cells #[.int .i64 k, .int .i64 i, .int .u64 b, .string ⟨t.toArray⟩, .slice l n c] 25)).alloc (.cells #[.int .i64 k', .int .i64 i', .int .u64 b', .string ⟨t'.toArray⟩, .slice l' n' c'] 25)) := ((Below.refl _ w).alloc (Nat.le_refl _) _).alloc (by simp) _
  have HC := Lib.hid (fun (wx : World) (hx : Below w.heap.size w wx) => efN hall (hF.same (w' := wx) (fun x _ hlt => hx.block x hlt) (fun x hx2 _ => hx2)) (hG.same (w' := wx) (fun x _ hlt => hx.block x hlt) (fun x hx2 _ => hx2)) (fun x hx2 => Nat.lt_of_lt_of_le (hS x hx2) hx.size))
  have hkk : kids.len = n ∧ g.len = n' := ⟨hnl, hnl'⟩
  clear hF hG hS hall hs1 hnl hnl'
  go_enter Tryz.func46, Tryz.ntmps46
  go_upto_region 1 with (fail)
  generalize (w.alloc (.cells #[.int .i64 k, .int .i64 i, .int .u64 b, .string ⟨t.toArray⟩, .slice l n c] 25)).alloc (.cells #[.int .i64 k', .int .i64 i', .int .u64 b', .string ⟨t'.toArray⟩, .slice l' n' c'] 25) = w1 at *
  have HC := Lib.hid (HC.out w1 hB)
  have HB := Lib.hid hB
  have b0 := hA.cell 0 rfl
  have b1 := hA.cell 1 rfl
  have b2 := hA.cell 2 rfl
  have b3 := hA.cell 3 rfl
  have b4 := hA.cell 4 rfl
  have d0 := hA'.cell 0 rfl
  have d1 := hA'.cell 1 rfl
  have d2 := hA'.cell 2 rfl
  have d3 := hA'.cell 3 rfl
  have d4 := hA'.cell 4 rfl
  have HKN := Lib.hid hkk
  clear hA hA' hB hkk
  cases h1 : (k == k')
  · have h1p := h1
    simp only [beq_eq_false_iff_ne, ne_eq] at h1p
    have H1P := Lib.hid h1p
    clear h1p
    go_wp2_with fail
    go_ret
    exact ⟨by simp [headM, H1P.out], HB.out⟩
  · have h1p := h1
    simp only [beq_iff_eq] at h1p
    have H1P := Lib.hid h1p
    clear h1p
    cases h2 : (i == i')
    · have h2p := h2
      simp only [beq_eq_false_iff_ne, ne_eq] at h2p
      have H2P := Lib.hid h2p
      clear h2p
      go_wp2_with fail
      go_ret
      exact ⟨by simp [headM, H1P.out, H2P.out], HB.out⟩
    · have h2p := h2
      simp only [beq_iff_eq] at h2p
      have H2P := Lib.hid h2p
      clear h2p
      cases h3 : (b == b')
      · have h3p := h3
        simp only [beq_eq_false_iff_ne, ne_eq] at h3p
        have H3P := Lib.hid h3p
        clear h3p
        go_wp2_with fail
        go_ret
        exact ⟨by simp [headM, H1P.out, H2P.out, H3P.out], HB.out⟩
      · have h3p := h3
        simp only [beq_iff_eq] at h3p
        have H3P := Lib.hid h3p
        clear h3p
        cases h4 : (t == t')
        · have h4p := h4
          simp only [beq_eq_false_iff_ne, ne_eq] at h4p
          have H4P := Lib.hid h4p
          clear h4p
          go_wp2_with fail
          go_ret
          exact ⟨by simp [headM, H1P.out, H2P.out, H3P.out, H4P.out], HB.out⟩
        · have h4p := h4
          simp only [beq_iff_eq] at h4p
          subst h4p
          clear h4
          have hsg : (headM k i b t n k' i' b' t n' && sameM kids g) = sameM kids g := by
            cases hs : sameM kids g
            · simp
            · have hkn := HKN.out; have := sameM_len kids g hs
              simp [headM, H1P.out, H2P.out, H3P.out]
              omega
          have HSG := Lib.hid hsg
          clear hsg
          go_wp2_with (go_at_call 82; (with_reducible refine HC.out.mono ?_); rintro e w2 ⟨rfl, hb2⟩)
          go_ret
          exact ⟨by rw [HSG.out]; rfl, HB.out.trans (hb2.mono HB.out.size)⟩
theorem sameAll : ∀ f : Fo, f.All TOK
  | .nil => trivial
  | .cons _ _ _ _ kids rest => ⟨sameN (sameAll kids), sameAll rest⟩
theorem sameG (kids : Fo) : TOK kids := sameN (sameAll kids)
end Go.Proofs.YtbldidiibkcelaaGreatDoor
