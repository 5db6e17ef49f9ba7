/-
  The document's Same (walk). Not a statement of the seat.
-/
import Derived.Test.YtbldidiibkcelaaGreatDoorSameP
namespace Go.Proofs.YtbldidiibkcelaaGreatDoor
open Go.RowKit

def SOK (kids : Fo) : Prop := ∀ (g : Fo) (k i b k' i' b' : Int) (t t' : Bs) (l l' : Option Addr) (n c n' c' : Nat) (S : Nat → Prop) (w : World), FoAt S w kids l n c → FoAt S w g l' n' c' → (∀ x, S x → x < w.heap.size) →
  Calls Tryz.prog 49 #[.agg #[.int .i64 k, .int .i64 i, .int .u64 b, .string ⟨t.toArray⟩, .slice l n c], .agg #[.int .i64 k', .int .i64 i', .int .u64 b', .string ⟨t'.toArray⟩, .slice l' n' c']] w
    (fun e w' => e = .returned (.bool (headM k i b t n k' i' b' t' n' && sameM kids g)) ∧ Below w.heap.size w w')
def SRel (kids g : Fo) (w : World) (t44 : Value) (wr : World) : Prop := ∃ (dn dn' rest rest' : Fo), t44 = .int .i64 (dn.len : Nat) ∧ dn'.len = dn.len ∧ kids = dn.app rest ∧ g = dn'.app rest' ∧ Below w.heap.size w wr ∧ sameM kids g = sameM rest rest'

set_option maxRecDepth 100000 in
set_option maxHeartbeats 16000000 in
theorem rsameN {kids : Fo} (hall : kids.All SOK) : SOK kids := by
  intro g k i b k' i' b' t t' l l' n c n' c' S w hF hG hS
  generalize hhd : headM k i b t n k' i' b' t' n' = hd
  have HHD := Lib.hid hhd
  have hA := (Blk.new w #[.int .i64 k, .int .i64 i, .int .u64 b, .string ⟨t.toArray⟩, .slice l n c] 25).alloc (.cells #[.int .i64 k', .int .i64 i', .int .u64 b', .string ⟨t'.toArray⟩, .slice l' n' c'] 25)
  have hA' := Blk.new (w.alloc (.cells #[.int .i64 k, .int .i64 i, .int .u64 b, .string ⟨t.toArray⟩, .slice l n c] 25)) #[.int .i64 k', .int .i64 i', .int .u64 b', .string ⟨t'.toArray⟩, .slice l' n' c'] 25
  have hs1 : (w.alloc (.cells #[.int .i64 k, .int .i64 i, .int .u64 b, .string ⟨t.toArray⟩, .slice l n c] 25)).heap.size = w.heap.size + 1 := by simp
  rw [hs1] at hA'
  have hB : Below w.heap.size w ((w.alloc (.cells #[.int .i64 k, .int .i64 i, .int .u64 b, .string ⟨t.toArray⟩, .slice l n c] 25)).alloc (.cells #[.int .i64 k', .int .i64 i', .int .u64 b', .string ⟨t'.toArray⟩, .slice l' n' c'] 25)) := ((Below.refl _ w).alloc (Nat.le_refl _) _).alloc (by simp) _
  have HF := Lib.hid hF
  have HG := Lib.hid hG
  have HS := Lib.hid hS
  have HALL := Lib.hid hall
  clear hF hG hS hall hhd hs1
  go_enter Tryz.func49, Tryz.ntmps49
  go_upto_region 1 with (fail)
  generalize (w.alloc (.cells #[.int .i64 k, .int .i64 i, .int .u64 b, .string ⟨t.toArray⟩, .slice l n c] 25)).alloc (.cells #[.int .i64 k', .int .i64 i', .int .u64 b', .string ⟨t'.toArray⟩, .slice l' n' c'] 25) = w1 at *
  have b0 := hA.cell 0 rfl
  have b1 := hA.cell 1 rfl
  have b2 := hA.cell 2 rfl
  have b3 := hA.cell 3 rfl
  have b4 := hA.cell 4 rfl
  have d0 := hA'.cell 0 rfl
  have d1 := hA'.cell 1 rfl
  have d2 := hA'.cell 2 rfl
  have d3 := hA'.cell 3 rfl
  have d4 := hA'.cell 4 rfl
  have HB := Lib.hid hB
  have HA := Lib.hid hA
  have HA' := Lib.hid hA'
  clear hA hA' hB
  go_cut [40] from 41 (fun s40 wx => wx = w1 ∧ ∃ nf, s40 = .bool nf ∧ hd = !nf)
  · cases h1 : (k != k')
    · have h1p := h1
      simp only [bne_eq_false_iff_eq] at h1p
      have H1P := Lib.hid h1p
      clear h1p
      cases h2 : (i != i')
      · have h2p := h2
        simp only [bne_eq_false_iff_eq] at h2p
        have H2P := Lib.hid h2p
        clear h2p
        cases h3 : (b != b')
        · have h3p := h3
          simp only [bne_eq_false_iff_eq] at h3p
          have H3P := Lib.hid h3p
          clear h3p
          cases h4 : (t != t')
          · have h4p := h4
            simp only [bne_eq_false_iff_eq] at h4p
            subst h4p
            clear h4
            cases h5 : ((n : Int) != (n' : Int))
            · have h5p := h5
              simp only [bne_eq_false_iff_eq] at h5p
              replace h5p : n = n' := by omega
              have H5P := Lib.hid h5p
              clear h5p
              go_wp2_with fail
              go_meet
              case rel => exact ⟨rfl, _, rfl, by rw [← HHD.out]; simp [headM, H1P.out, H2P.out, H3P.out, H5P.out]⟩
            · have h5p := h5
              simp only [bne_iff_ne, ne_eq] at h5p
              replace h5p : ¬ n = n' := by omega
              have H5P := Lib.hid h5p
              clear h5p
              go_wp2_with fail
              go_meet
              case rel => exact ⟨rfl, _, rfl, by rw [← HHD.out]; simp [headM, H1P.out, H2P.out, H3P.out, H5P.out]⟩
          · have h4p := h4
            simp only [bne_iff_ne, ne_eq] at h4p
            have H4P := Lib.hid h4p
            clear h4p
            go_wp2_with fail
            go_meet
            case rel => exact ⟨rfl, _, rfl, by rw [← HHD.out]; simp [headM, H1P.out, H2P.out, H3P.out, H4P.out]⟩
        · have h3p := h3
          simp only [bne_iff_ne, ne_eq] at h3p
          have H3P := Lib.hid h3p
          clear h3p
          go_wp2_with fail
          go_meet
          case rel => exact ⟨rfl, _, rfl, by rw [← HHD.out]; simp [headM, H1P.out, H2P.out, H3P.out]⟩
      · have h2p := h2
        simp only [bne_iff_ne, ne_eq] at h2p
        have H2P := Lib.hid h2p
        clear h2p
        go_wp2_with fail
        go_meet
        case rel => exact ⟨rfl, _, rfl, by rw [← HHD.out]; simp [headM, H1P.out, H2P.out]⟩
    · have h1p := h1
      simp only [bne_iff_ne, ne_eq] at h1p
      have H1P := Lib.hid h1p
      clear h1p
      go_wp2_with fail
      go_meet
      case rel => exact ⟨rfl, _, rfl, by rw [← HHD.out]; simp [headM, H1P.out]⟩
  · obtain ⟨rfl, nf, rfl, hnf⟩ := hcut
    clear b0 b1 b2 b3 d0 d1 d2 d3
    cases nf
    rotate_left
    · replace hnf : hd = false := hnf
      subst hnf
      go_wp2_with fail
      go_ret
      exact ⟨rfl, HB.out⟩
    · replace hnf : hd = true := hnf
      have hnn : n = n' := by
        have h := HHD.out
        rw [hnf] at h
        simp only [headM, Bool.and_eq_true, beq_iff_eq] at h
        exact h.2.2.2.2
      subst hnf
      have HNN := Lib.hid hnn
      clear hnn
      go_wp2_with fail
      go_loopw [44] (fun t44 wr => SRel kids g w t44 wr ∧ Below wc.heap.size wc wr) (fun t44 _ => n - (intOf t44).toNat)
      case atStart => exact ⟨⟨.nil, .nil, kids, g, rfl, rfl, rfl, rfl, HB.out, rfl⟩, Below.refl _ _⟩
      case round =>
        obtain ⟨⟨dn, dn', rest, rest', rfl, hdl, hk, hk', hBw, hq⟩, hB1⟩ := hrel
        have c4 := cellAt hB1 b4
        have c4' := cellAt hB1 d4
        have HBw := Lib.hid hBw
        have HB1 := Lib.hid hB1
        have hF := HF.out.same (w' := wr) (fun x hx hlt => hBw.block x hlt) (fun x hx _ => hx)
        have hG := HG.out.same (w' := wr) (fun x hx hlt => hBw.block x hlt) (fun x hx _ => hx)
        have hlen := hF.len
        have hlen' := hG.len
        rw [hk, Fo.len_app] at hlen
        rw [hk', Fo.len_app, ← HNN.out] at hlen'
        clear hBw hB1 b4 d4
        cases rest with
        | nil =>
          have hj : ¬ (dn.len : Int) < (n : Int) := by have : Fo.len .nil = 0 := rfl; omega
          cases rest' with
          | cons k2 i2 b2 t2 ks r2 =>
            have hlr : (Fo.cons k2 i2 b2 t2 ks r2).len = r2.len + 1 := rfl
            have : Fo.len .nil = 0 := rfl
            omega
          | nil =>
          have HR := Lib.hid hq
          clear hq hk hk' hlen hlen' hF hG hdl
          go_wp2_with fail
          go_ret
          exact ⟨by rw [HR.out]; rfl, HBw.out⟩
        | cons k2 i2 b2 t2 ks r2 =>
          have hlr : (Fo.cons k2 i2 b2 t2 ks r2).len = r2.len + 1 := rfl
          cases rest' with
          | nil =>
            have : Fo.len .nil = 0 := rfl
            omega
          | cons k3 i3 b3 t3 ks3 r3 =>
          rw [hk] at hF
          rw [hk'] at hG
          obtain ⟨bb, off, a2, n2, cp2, rfl, hkF, e0, e1, e2, e3, e4, hnb, hjn⟩ := hF.elem
          obtain ⟨bb', off', a3, n3, cp3, rfl, hgF, f0, f1, f2, f3, f4, hnb', hjn'⟩ := hG.elem
          rw [hdl] at f0 f1 f2 f3 f4
          have hj : (dn.len : Int) < (n : Int) := by omega
          have hj' : (dn.len : Int) < (n' : Int) := by have := HNN.out; omega
          have hjn2 : dn.len < n' := by have := HNN.out; omega
          have hOK : SOK ks := by
            have hal := HALL.out
            rw [hk] at hal
            exact (Fo.All.split dn hal).1
          have hkl := hkF.len
          have hgl := hgF.len
          have hsq : sameM (.cons k2 i2 b2 t2 ks r2) (.cons k3 i3 b3 t3 ks3 r3) = ((headM k2 i2 b2 t2 n2 k3 i3 b3 t3 n3 && sameM ks ks3) && sameM r2 r3) := by rw [sameM, hkl, hgl]; rfl
          rw [hsq] at hq
          have HC := Lib.hid (fun (wx : World) (hx : Below wr.heap.size wr wx) => hOK ks3 k2 i2 b2 k3 i3 b3 t2 t3 a2 a3 n2 cp2 n3 cp3 S wx (hkF.same (w' := wx) (fun x _ hlt => hx.block x hlt) (fun x hx2 _ => hx2)) (hgF.same (w' := wx) (fun x _ hlt => hx.block x hlt) (fun x hx2 _ => hx2)) (fun x hx2 => Nat.lt_of_lt_of_le (HS.out x hx2) (Nat.le_trans HBw.out.size hx.size)))
          have HKEEP := Lib.hid (show ∀ wx, Below wr.heap.size wr wx → (wx.cell? ⟨w.heap.size, 4, none⟩ = some (.slice (some ⟨bb, off, none⟩) n c) ∧ wx.cell? ⟨w.heap.size + 1, 4, none⟩ = some (.slice (some ⟨bb', off', none⟩) n' c')) ∧
              (wx.cell? ⟨bb, off + dn.len * 5, none⟩ = some (.int .i64 k2) ∧ wx.cell? ⟨bb, off + dn.len * 5 + 1, none⟩ = some (.int .i64 i2) ∧ wx.cell? ⟨bb, off + dn.len * 5 + 2, none⟩ = some (.int .u64 b2) ∧ wx.cell? ⟨bb, off + dn.len * 5 + 3, none⟩ = some (.string ⟨t2.toArray⟩) ∧ wx.cell? ⟨bb, off + dn.len * 5 + 4, none⟩ = some (.slice a2 n2 cp2)) ∧
              (wx.cell? ⟨bb', off' + dn.len * 5, none⟩ = some (.int .i64 k3) ∧ wx.cell? ⟨bb', off' + dn.len * 5 + 1, none⟩ = some (.int .i64 i3) ∧ wx.cell? ⟨bb', off' + dn.len * 5 + 2, none⟩ = some (.int .u64 b3) ∧ wx.cell? ⟨bb', off' + dn.len * 5 + 3, none⟩ = some (.string ⟨t3.toArray⟩) ∧ wx.cell? ⟨bb', off' + dn.len * 5 + 4, none⟩ = some (.slice a3 n3 cp3)) from
            fun wx hx => ⟨⟨cellAt hx c4, cellAt hx c4'⟩, ⟨cellAt hx e0, cellAt hx e1, cellAt hx e2, cellAt hx e3, cellAt hx e4⟩, ⟨cellAt hx f0, cellAt hx f1, cellAt hx f2, cellAt hx f3, cellAt hx f4⟩⟩)
          generalize (headM k2 i2 b2 t2 n2 k3 i3 b3 t3 n3 && sameM ks ks3) = fk at *
          have HKK := Lib.hid (And.intro hk hk')
          have HJ := Lib.hid (And.intro hjn hjn2)
          have HQ := Lib.hid hq
          have HDL := Lib.hid hdl
          clear hkF hgF hOK hk hk' hkl hgl hsq hq hlen hlen' hF hG hlr hdl hjn' hnb'
          generalize hjj : dn.len = j at *
          have HJJ := Lib.hid hjj
          clear hjj
          cases fk
          · go_wp2_with fail
            go_region_held3 (fun wx : World => (wx.cell? ⟨w.heap.size, 4, none⟩ = some (.slice (some ⟨bb, off, none⟩) n c) ∧ wx.cell? ⟨w.heap.size + 1, 4, none⟩ = some (.slice (some ⟨bb', off', none⟩) n' c')) ∧
                (wx.cell? ⟨bb, off + j * 5, none⟩ = some (.int .i64 k2) ∧ wx.cell? ⟨bb, off + j * 5 + 1, none⟩ = some (.int .i64 i2) ∧ wx.cell? ⟨bb, off + j * 5 + 2, none⟩ = some (.int .u64 b2) ∧ wx.cell? ⟨bb, off + j * 5 + 3, none⟩ = some (.string ⟨t2.toArray⟩) ∧ wx.cell? ⟨bb, off + j * 5 + 4, none⟩ = some (.slice a2 n2 cp2)) ∧
                (wx.cell? ⟨bb', off' + j * 5, none⟩ = some (.int .i64 k3) ∧ wx.cell? ⟨bb', off' + j * 5 + 1, none⟩ = some (.int .i64 i3) ∧ wx.cell? ⟨bb', off' + j * 5 + 2, none⟩ = some (.int .u64 b3) ∧ wx.cell? ⟨bb', off' + j * 5 + 3, none⟩ = some (.string ⟨t3.toArray⟩) ∧ wx.cell? ⟨bb', off' + j * 5 + 4, none⟩ = some (.slice a3 n3 cp3)))
              (first | exact HKEEP.out _ (Below.refl _ _) | exact HKEEP.out _ (Below.refl _ _).drew | exact HKEEP.out _ HBA.out)
              (first
                | (go_simp; go_at_call 49; refine (HC.out _ (Below.refl _ _).drew).mono ?_; rintro eA wA ⟨rfl, hbA⟩; have HBA := Lib.hid ((Below.refl wr.heap.size wr).drew.trans hbA); clear hbA))
            all_goals
              go_wp2_with fail
              go_ret
              exact ⟨by rw [HQ.out]; rfl, HBw.out.trans (HBA.out.mono HBw.out.size)⟩
          · go_wp2_with fail
            go_region_held3 (fun wx : World => (wx.cell? ⟨w.heap.size, 4, none⟩ = some (.slice (some ⟨bb, off, none⟩) n c) ∧ wx.cell? ⟨w.heap.size + 1, 4, none⟩ = some (.slice (some ⟨bb', off', none⟩) n' c')) ∧
                (wx.cell? ⟨bb, off + j * 5, none⟩ = some (.int .i64 k2) ∧ wx.cell? ⟨bb, off + j * 5 + 1, none⟩ = some (.int .i64 i2) ∧ wx.cell? ⟨bb, off + j * 5 + 2, none⟩ = some (.int .u64 b2) ∧ wx.cell? ⟨bb, off + j * 5 + 3, none⟩ = some (.string ⟨t2.toArray⟩) ∧ wx.cell? ⟨bb, off + j * 5 + 4, none⟩ = some (.slice a2 n2 cp2)) ∧
                (wx.cell? ⟨bb', off' + j * 5, none⟩ = some (.int .i64 k3) ∧ wx.cell? ⟨bb', off' + j * 5 + 1, none⟩ = some (.int .i64 i3) ∧ wx.cell? ⟨bb', off' + j * 5 + 2, none⟩ = some (.int .u64 b3) ∧ wx.cell? ⟨bb', off' + j * 5 + 3, none⟩ = some (.string ⟨t3.toArray⟩) ∧ wx.cell? ⟨bb', off' + j * 5 + 4, none⟩ = some (.slice a3 n3 cp3)))
              (first | exact HKEEP.out _ (Below.refl _ _) | exact HKEEP.out _ (Below.refl _ _).drew | exact HKEEP.out _ HBA.out)
              (first
                | (go_simp; go_at_call 49; refine (HC.out _ (Below.refl _ _).drew).mono ?_; rintro eA wA ⟨rfl, hbA⟩; have HBA := Lib.hid ((Below.refl wr.heap.size wr).drew.trans hbA); clear hbA))
            all_goals
              go_wp2_with fail
              go_roundw
              case rel =>
                refine ⟨⟨dn.app (.cons k2 i2 b2 t2 ks .nil), dn'.app (.cons k3 i3 b3 t3 ks3 .nil), r2, r3, ?_, ?_, ?_, ?_, HBw.out.trans (HBA.out.mono HBw.out.size), by rw [HQ.out]; simp⟩, HB1.out.trans (HBA.out.mono HB1.out.size)⟩
                · rw [Fo.len_app, HJJ.out, show (Fo.cons k2 i2 b2 t2 ks .nil).len = 1 from rfl]; go_num
                · rw [Fo.len_app, Fo.len_app, HDL.out, HJJ.out]; rfl
                · rw [Fo.app_assoc]; exact HKK.out.1
                · rw [Fo.app_assoc]; exact HKK.out.2
              case measure => simp [intOf]; have := HJ.out; omega
theorem rsameAll : ∀ f : Fo, f.All SOK
  | .nil => trivial
  | .cons _ _ _ _ kids rest => ⟨rsameN (rsameAll kids), rsameAll rest⟩
theorem rsameG (kids : Fo) : SOK kids := rsameN (rsameAll kids)
end Go.Proofs.YtbldidiibkcelaaGreatDoor
