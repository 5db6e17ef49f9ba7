/-
  fit (walk). Not a statement of the seat.
-/
import Derived.Test.YtofpdhkdnbnobaaDoorValidW
import Derived.Test.YtofpdhkdnbnobaaDoorSameP
import Derived.Test.YtofpdhkdnbnobaaDoorTwo
namespace Go.Proofs.YtofpdhkdnbnobaaDoor
open Go.RowKit

/-- are all valid, and not too many? N: those ahead -/
def fitS : Fo → Nat → Bool
  | .nil, _ => true
  | .cons k i b t ks r, N => if rvalidM ⟨k, i, b, t, ks⟩ = true then (if 65536 < N + (1 + sizeF ks) then false else fitS r (N + (1 + sizeF ks))) else false
def okF : Fo → Prop
  | .nil => True
  | .cons k i b t ks r => okD ⟨k, i, b, t, ks⟩ ∧ okF r
theorem fitS_ok : ∀ (f : Fo) (N : Nat), fitS f N = true → N ≤ 65536 → okF f ∧ N + sizeF f ≤ 65536
  | .nil, N, _, h => ⟨trivial, h⟩
  | .cons k i b t ks r, N, h, _ => by
    rw [fitS] at h
    by_cases hv : rvalidM ⟨k, i, b, t, ks⟩ = true
    · rw [if_pos hv] at h
      by_cases hn : 65536 < N + (1 + sizeF ks)
      · rw [if_pos hn] at h; cases h
      · rw [if_neg hn] at h
        have := fitS_ok r _ h (by omega)
        exact ⟨⟨rvalid_ok hv, this.1⟩, by have := this.2; simp only [sizeF]; omega⟩
    · rw [if_neg hv] at h; cases h
theorem cnt_one {d : Dt} (h : okD d) : (cntM d.l 1 4096).1 = 1 + sizeF d.l := by
  have h1 := (valid_ok h).2.2.1
  have hs : sizeF d.fo = 1 + sizeF d.l := by simp [Dt.fo, sizeF]
  have hh : hiF d.fo = hiF d.l + 1 := by simp [Dt.fo, hiF]
  obtain ⟨a1, a2, a3⟩ := h
  have hl := look_ok d.fo 1 0 0 (by omega) (by omega) a3 (by omega)
  rw [hl] at h1
  rw [← h1]
  show 0 + sizeF d.fo = _
  omega

def FitRel (kids : Fo) (w : World) (t3 t9 : Value) (wr : World) : Prop :=
  ∃ (dn rest : Fo) (N : Nat), t9 = .int .i64 (dn.len : Nat) ∧ t3 = .int .i64 (N : Nat) ∧ kids = dn.app rest ∧ N ≤ 65536 ∧ fitS kids 0 = fitS rest N ∧ Below w.heap.size w wr

set_option maxRecDepth 100000 in
set_option maxHeartbeats 4000000 in
theorem fitN {S : Nat → Prop} {kids : Fo} {l : Option Addr} {n c : Nat} {w : World} (hF : FoAt S w kids l n c) (hS : ∀ x, S x → x < w.heap.size) :
    Calls Tryd.prog 23 #[.slice l n c] w (fun e w' => e = .returned (.bool (fitS kids 0)) ∧ Below w.heap.size w w') := by
  have HF := Lib.hid hF
  have HS := Lib.hid hS
  have HLEN := Lib.hid hF.len
  have H0 := Lib.hid (show FitRel kids w (.int .i64 0) (.int .i64 0) w from ⟨.nil, kids, 0, rfl, rfl, rfl, by omega, rfl, Below.refl _ _⟩)
  clear hF hS
  go_enter Tryd.func23, Tryd.ntmps23
  go_wp2_with fail
  go_loopw [3, 9] (fun t3 t9 wr => FitRel kids w t3 t9 wr) (fun _ t9 _ => n - (intOf t9).toNat)
  case atStart => exact H0.out
  case round =>
    obtain ⟨dn, rest, N, rfl, rfl, hk, hN, hq, hBw⟩ := hrel
    have hlen := HLEN.out
    rw [hk, Fo.len_app] at hlen
    have HBw := Lib.hid hBw
    have HQ := Lib.hid hq
    clear H0 hq
    cases rest with
    | nil =>
      have hj : ¬ (dn.len : Int) < (n : Int) := by have : Fo.len .nil = 0 := rfl; omega
      clear hk hlen hBw
      go_wp2_with fail
      go_ret
      exact ⟨by rw [HQ.out]; rfl, HBw.out⟩
    | cons k2 i2 b2 t2 ks r2 =>
      have hlr : (Fo.cons k2 i2 b2 t2 ks r2).len = r2.len + 1 := rfl
      have hF := HF.out.same (w' := wr) (fun x hx hlt => hBw.block x hlt) (fun x hx _ => hx)
      rw [hk] at hF
      obtain ⟨bb, off, a2, n2, cp2, rfl, hkF, e0, e1, e2, e3, e4, hnb, hjn⟩ := hF.elem
      have hj : (dn.len : Int) < (n : Int) := by omega
      have HV := Lib.hid (rvalidN (d := ⟨k2, i2, b2, t2, ks⟩) hkF (fun x hx => Nat.lt_of_lt_of_le (HS.out x hx) HBw.out.size))
      have HP := Lib.hid (fun (wx : World) (hx : Below wr.heap.size wr wx) => rpartsN (d := ⟨k2, i2, b2, t2, ks⟩) (hkF.same (w' := wx) (fun x _ hlt => hx.block x hlt) (fun x hx2 _ => hx2)) (fun x hx2 => Nat.lt_of_lt_of_le (HS.out x hx2) (Nat.le_trans HBw.out.size hx.size)))
      have HKK := Lib.hid hk
      have HJ := Lib.hid hjn
      clear hkF hk hlen hF hlr hBw
      generalize hjj : dn.len = j at *
      have HJJ := Lib.hid hjj
      clear hjj
      by_cases hv : rvalidM ⟨k2, i2, b2, t2, ks⟩ = true
      · have hcn := cnt_one (rvalid_ok hv)
        have hsz : 1 + sizeF ks ≤ 4096 := (rvalid_ok hv).1
        rw [hv] at HV
        have HC := Lib.hid hcn
        generalize cntM ks 1 4096 = r at *
        generalize hm : 1 + sizeF ks = m at *
        have hr1 : r.1 = m := HC.out
        obtain ⟨r1, r2x⟩ := r
        subst hr1
        have HM := Lib.hid hm
        have HVV := Lib.hid hv
        have HSZ := Lib.hid hsz
        clear hm hv hsz hcn HC
        by_cases hbig : 65536 < N + r1
        · have hbi : (65536 : Int) < (N : Int) + (r1 : Int) := by omega
          have hub : (N : Int) + (r1 : Int) ≤ 70000 := by have := HSZ.out; omega
          go_wp2_with (first
            | (go_at_call 12; (with_reducible refine HV.out.mono ?_); rintro eA wA ⟨rfl, hbA⟩; have HBA := Lib.hid hbA; have e0' := cellAt hbA e0; have e1' := cellAt hbA e1; have e2' := cellAt hbA e2; have e3' := cellAt hbA e3; have e4' := cellAt hbA e4; clear hbA e0 e1 e2 e3 e4)
            | (go_at_call 21; (with_reducible refine (HP.out _ HBA.out).mono ?_); rintro eB wB ⟨rfl, hbB⟩; have HBB := Lib.hid (HBA.out.trans (hbB.mono HBA.out.size)); clear hbB))
          go_ret
          refine ⟨?_, HBw.out.trans (HBB.out.mono HBw.out.size)⟩
          rw [HQ.out, fitS, if_pos HVV.out, HM.out, if_pos (by have := HM.out; omega)]
          rfl
        · have hbi : ¬ (65536 : Int) < (N : Int) + (r1 : Int) := by omega
          have HBG := Lib.hid hbig
          go_wp2_with (first
            | (go_at_call 12; (with_reducible refine HV.out.mono ?_); rintro eA wA ⟨rfl, hbA⟩; have HBA := Lib.hid hbA; have e0' := cellAt hbA e0; have e1' := cellAt hbA e1; have e2' := cellAt hbA e2; have e3' := cellAt hbA e3; have e4' := cellAt hbA e4; clear hbA e0 e1 e2 e3 e4)
            | (go_at_call 21; (with_reducible refine (HP.out _ HBA.out).mono ?_); rintro eB wB ⟨rfl, hbB⟩; have HBB := Lib.hid (HBA.out.trans (hbB.mono HBA.out.size)); clear hbB))
          go_roundw
          case rel =>
            refine ⟨dn.app (.cons k2 i2 b2 t2 ks .nil), r2, N + r1, ?_, ?_, ?_, by have := HBG.out; omega, ?_, HBw.out.trans (HBB.out.mono HBw.out.size)⟩
            · rw [Fo.len_app, HJJ.out, show (Fo.cons k2 i2 b2 t2 ks .nil).len = 1 from rfl]; go_num
            · go_num
            · rw [Fo.app_assoc]; exact HKK.out
            · rw [HQ.out, fitS, if_pos HVV.out, HM.out, if_neg (by have := HBG.out; omega)]
          case measure => simp [intOf]; have := HJ.out; omega
      · have hvf : rvalidM ⟨k2, i2, b2, t2, ks⟩ = false := by simpa using hv
        rw [hvf] at HV
        have HVV := Lib.hid hv
        clear hv hvf
        go_wp2_with (go_at_call 12; (with_reducible refine HV.out.mono ?_); rintro eA wA ⟨rfl, hbA⟩; have HBA := Lib.hid hbA; clear hbA)
        go_ret
        refine ⟨?_, HBw.out.trans (HBA.out.mono HBw.out.size)⟩
        rw [HQ.out, fitS, if_neg HVV.out]
        rfl
end Go.Proofs.YtofpdhkdnbnobaaDoor
