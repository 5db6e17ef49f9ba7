/-
  awake (walk). Not a statement of the seat.
-/
import Derived.Test.YtbldidiibkcelaaGreatDoorEA7
namespace Go.Proofs.YtbldidiibkcelaaGreatDoor
open Go.RowKit

def kidsW : Eo := .cons 1 0 5 [112] Dt.zero [] .nil .nil
theorem validWM : evalidM ⟨3, 1, 0, [119], Dt.zero, [], kidsW⟩ = true := by decide +kernel
theorem erW {w : World} {g : Nat} (h : PAt w g 0) : ErAt (fun x => x < w.heap.size) w ⟨3, 1, 0, [119], Dt.zero, [], kidsW⟩ none 0 0 none 0 0 (some ⟨g, 0, none⟩) 1 1 := by
  refine ⟨FoAt.nil _ _, ⟨Rd.nil _ _, fun _ h => absurd h (by omega)⟩, VP0, ⟨⟨rfl, Nat.le_refl _, by unfold maxLen; omega, .inr ⟨g, 0, rfl, h.1, fun j hj => ?_⟩⟩, fun x _ hx => by cases hx; exact h.1⟩, ?_⟩
  · rw [← h.2 j hj]
  · exact ⟨none, 0, 0, none, 0, 0, none, 0, 0, [], [], rfl, FoAt.nil _ _, ⟨Rd.nil _ _, fun _ h => absurd h (by omega)⟩, ⟨Rd.nil _ _, fun _ h => absurd h (by omega)⟩, rfl, rfl⟩
theorem validW18 {w : World} {g : Nat} (h : PAt w g 0) : Calls Tryz.prog 18 #[W0 (some ⟨g, 0, none⟩)] w (fun r w' => r = .returned (.bool true) ∧ Below w.heap.size w w') := by
  have := evalidN (erW h) (fun x hx => hx) (by simp) (by simp [Eo.small, kidsW])
  rw [validWM] at this
  exact this
/-- the two blocks that awake lays first -/
def aw (w : World) : World := (w.alloc (.cells #[.int .i64 1, .int .i64 0, .int .i64 5, .string ⟨#[112]⟩, .int .i64 0, .int .i64 0, .int .u64 0, .string ⟨#[]⟩, .slice none 0 0, .slice none 0 0, .slice none 0 0] 29)).alloc
  (.cells #[.int .i64 3, .int .i64 1, .int .i64 0, .string ⟨#[119]⟩, .int .i64 0, .int .i64 0, .int .u64 0, .string ⟨#[]⟩, .slice none 0 0, .slice none 0 0, .slice (some ⟨w.heap.size, 0, none⟩) 1 1] 29)
theorem aw_facts (w : World) : PAt (aw w) w.heap.size 0 ∧ Blk (aw w) (w.heap.size + 1) (VW0 (some ⟨w.heap.size, 0, none⟩)) ∧ Below w.heap.size w (aw w) := by
  have n1 := (Blk.new w #[.int .i64 1, .int .i64 0, .int .i64 5, .string ⟨#[112]⟩, .int .i64 0, .int .i64 0, .int .u64 0, .string ⟨#[]⟩, .slice none 0 0, .slice none 0 0, .slice none 0 0] 29)
  have hb : Below w.heap.size w (w.alloc (.cells #[.int .i64 1, .int .i64 0, .int .i64 5, .string ⟨#[112]⟩, .int .i64 0, .int .i64 0, .int .u64 0, .string ⟨#[]⟩, .slice none 0 0, .slice none 0 0, .slice none 0 0] 29)) := (Below.refl _ _).alloc (Nat.le_refl _) _
  have e1 : (w.alloc (.cells #[.int .i64 1, .int .i64 0, .int .i64 5, .string ⟨#[112]⟩, .int .i64 0, .int .i64 0, .int .u64 0, .string ⟨#[]⟩, .slice none 0 0, .slice none 0 0, .slice none 0 0] 29)).heap.size = w.heap.size + 1 := by simp
  unfold aw
  generalize w.alloc (.cells #[.int .i64 1, .int .i64 0, .int .i64 5, .string ⟨#[112]⟩, .int .i64 0, .int .i64 0, .int .u64 0, .string ⟨#[]⟩, .slice none 0 0, .slice none 0 0, .slice none 0 0] 29) = w1 at *
  have n2 := Blk.new w1 #[.int .i64 3, .int .i64 1, .int .i64 0, .string ⟨#[119]⟩, .int .i64 0, .int .i64 0, .int .u64 0, .string ⟨#[]⟩, .slice none 0 0, .slice none 0 0, .slice (some ⟨w.heap.size, 0, none⟩) 1 1] 29
  rw [e1] at n2
  have n3 := n1.alloc (.cells #[.int .i64 3, .int .i64 1, .int .i64 0, .string ⟨#[119]⟩, .int .i64 0, .int .i64 0, .int .u64 0, .string ⟨#[]⟩, .slice none 0 0, .slice none 0 0, .slice (some ⟨w.heap.size, 0, none⟩) 1 1] 29)
  exact ⟨⟨n3.1, fun j hj => by rw [Nat.zero_add]; exact (n3.2 j hj).1⟩, n2, hb.alloc hb.size _⟩

set_option maxRecDepth 100000 in
set_option maxHeartbeats 8000000 in
theorem awakeT (w : World) : Calls Tryz.prog 11 #[] w (fun e w' => e = .returned (.bool true) ∧ Below w.heap.size w w') := by
  have HC := Lib.hid (plain5 w)
  unfold P0 vE Dt.zero at HC
  go_enter Tryz.func11, Tryz.ntmps11
  go_upto_region 2 with (go_at_call 34; (with_reducible refine HC.out.mono ?_); rintro eA wA ⟨rfl, hBA⟩; have HBA := Lib.hid hBA; clear hBA)
  change Code.wp _ _ _ _ (aw wA)
  obtain ⟨hP, hA, hB⟩ := aw_facts wA
  generalize aw wA = w1 at *
  obtain ⟨p, hp⟩ : ∃ x, x = wA.heap.size + 1 := ⟨_, rfl⟩
  obtain ⟨g, hg⟩ : ∃ x, x = wA.heap.size := ⟨_, rfl⟩
  rw [← hp] at hA
  rw [← hg] at hA hP
  rw [← hp, ← hg]
  have HB := Lib.hid (HBA.out.trans (hB.mono HBA.out.size))
  have HK := Lib.hid (show ∀ wx, Below w1.heap.size w1 wx → (wx.cell? ⟨p, 0, none⟩ = some (.int .i64 3) ∧ wx.cell? ⟨p, 1, none⟩ = some (.int .i64 1) ∧ wx.cell? ⟨p, 2, none⟩ = some (.int .i64 0) ∧ wx.cell? ⟨p, 3, none⟩ = some (.string ⟨#[119]⟩) ∧ wx.cell? ⟨p, 4, none⟩ = some (.int .i64 0) ∧ wx.cell? ⟨p, 5, none⟩ = some (.int .i64 0) ∧ wx.cell? ⟨p, 6, none⟩ = some (.int .u64 0) ∧ wx.cell? ⟨p, 7, none⟩ = some (.string ⟨#[]⟩) ∧ wx.cell? ⟨p, 8, none⟩ = some (.slice none 0 0) ∧ wx.cell? ⟨p, 9, none⟩ = some (.slice none 0 0) ∧ wx.cell? ⟨p, 10, none⟩ = some (.slice (some ⟨g, 0, none⟩) 1 1)) from fun wx hx => by
    have a := hA.below hx
    exact ⟨a.cell 0 rfl, a.cell 1 rfl, a.cell 2 rfl, a.cell 3 rfl, a.cell 4 rfl, a.cell 5 rfl, a.cell 6 rfl, a.cell 7 rfl, a.cell 8 rfl, a.cell 9 rfl, a.cell 10 rfl⟩)
  have HT := Lib.hid (textW hP)
  have HPL := Lib.hid (fun wx => plain5 wx)
  have HI := Lib.hid (fun (wx : World) (hx : Below w1.heap.size w1 wx) => is16 (hP.below hx))
  have HV := Lib.hid (fun (wx : World) (hx : Below w1.heap.size w1 wx) => validW18 (hP.below hx))
  have c0 := hA.cell 0 rfl; have c1 := hA.cell 1 rfl; have c2 := hA.cell 2 rfl; have c3 := hA.cell 3 rfl; have c4 := hA.cell 4 rfl; have c5 := hA.cell 5 rfl; have c6 := hA.cell 6 rfl; have c7 := hA.cell 7 rfl; have c8 := hA.cell 8 rfl; have c9 := hA.cell 9 rfl; have c10 := hA.cell 10 rfl
  unfold W0 P0 vE Dt.zero at HI
  unfold P0 vE Dt.zero at HPL
  unfold W0 vE Dt.zero at HV
  unfold W0 vE at HT
  clear hP hA hB hp hg
  go_upto_region 3 with (go_at_call 26; (with_reducible refine HT.out.mono ?_); rintro eB wB ⟨rfl, hBB⟩; have HBB := Lib.hid hBB; clear hBB)
  clear c0 c1 c2 c3 c4 c5 c6 c7 c8 c9 c10
  go_region_held3 (fun wx : World => wx.cell? ⟨p, 0, none⟩ = some (.int .i64 3) ∧ wx.cell? ⟨p, 1, none⟩ = some (.int .i64 1) ∧ wx.cell? ⟨p, 2, none⟩ = some (.int .i64 0) ∧ wx.cell? ⟨p, 3, none⟩ = some (.string ⟨#[119]⟩) ∧ wx.cell? ⟨p, 4, none⟩ = some (.int .i64 0) ∧ wx.cell? ⟨p, 5, none⟩ = some (.int .i64 0) ∧ wx.cell? ⟨p, 6, none⟩ = some (.int .u64 0) ∧ wx.cell? ⟨p, 7, none⟩ = some (.string ⟨#[]⟩) ∧ wx.cell? ⟨p, 8, none⟩ = some (.slice none 0 0) ∧ wx.cell? ⟨p, 9, none⟩ = some (.slice none 0 0) ∧ wx.cell? ⟨p, 10, none⟩ = some (.slice (some ⟨g, 0, none⟩) 1 1))
    (first | exact HK.out _ HBB.out | exact HK.out _ HBB.out.drew | exact HK.out _ HB2.out | exact HK.out _ HB3.out)
    (first
      | (go_simp; go_at_call 34; (with_reducible refine (HPL.out _).mono ?_); rintro e2 w2 ⟨rfl, hB⟩; have HB2 := Lib.hid (HBB.out.drew.trans (hB.mono HBB.out.drew.size)); clear hB)
      | (go_simp; go_at_call 16; (with_reducible refine (HI.out _ HB2.out).mono ?_); rintro e3 w3 ⟨rfl, hB⟩; have HB3 := Lib.hid (HB2.out.trans (hB.mono HB2.out.size)); clear hB))
  all_goals
    have hk := HK.out _ HB3.out
    obtain ⟨k0, k1, k2, k3, k4, k5, k6, k7, k8, k9, k10⟩ := hk
    go_wp2_with (go_at_call 18; (with_reducible refine (HV.out _ HB3.out).mono ?_); rintro e4 w4 ⟨rfl, hB⟩; have HB4 := Lib.hid (HB3.out.trans (hB.mono HB3.out.size)); clear hB)
    go_ret
    exact ⟨rfl, HB.out.trans (HB4.out.mono HB.out.size)⟩
end Go.Proofs.YtbldidiibkcelaaGreatDoor
