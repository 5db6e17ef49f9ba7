/-
  DatumHas (walk). Not a statement of the seat.
-/
import Derived.Test.YtofpdhkdnbnobaaGreatDoorHas
namespace Go.Proofs.YtofpdhkdnbnobaaGreatDoor
open Go.RowKit

/-- what sample comes to -/
def SMP (k : Int) (w : World) (e : Ending) (w' : World) : Prop := (∃ M f x, e = .returned x ∧ vOne M k 0 0 [] (ValF M f) x) ∧ Below w.heap.size w w'
theorem mk54 (w : World) : (Instr.makeMap 54 none).run Tryz.prog w = .ok (.map (some w.heap.size)) (w.alloc (.map #[] 0)) := by kernel_rfl
theorem smp_call {k : Int} {kids : Fo} {l : Option Addr} {n c : Nat} {w W : World} (hF : FoAt (fun x => x < W.heap.size) W kids l n c) (hB : Below w.heap.size w W) (h9 : k = 9 → kids.len = 2) (h11 : k = 11 → kids.len = 1) (hsh : shapeF kids) (hsz : sizeF kids ≤ 100000) :
    Calls Tryz.prog 12 #[.map (some W.heap.size), .agg #[.int .i64 k, .int .i64 0, .int .u64 0, .string ⟨#[]⟩, .slice l n c]] (W.alloc (.map #[] 0)) (SMP k w) := by
  have hab : Below W.heap.size W (W.alloc (.map #[] 0)) := (Below.refl _ _).alloc (Nat.le_refl _) _
  refine (show Calls Tryz.prog 12 #[.map (some W.heap.size), .agg #[.int .i64 k, .int .i64 0, .int .u64 0, .string ⟨#[]⟩, .slice l n c]] (W.alloc (.map #[] 0)) (BXP [] W.heap.size (W.alloc (.map #[] 0)) (fun M' x => vOne M' k 0 0 [] (ValF M' kids) x)) from
    vbG kids k 0 0 [] l n c (fun x => x < W.heap.size) [] W.heap.size _ (hF.same (fun x _ hlt => hab.block x hlt) (fun _ hx _ => hx)) (fun x hx => ⟨by simp; omega, fun h => by
      rcases h with h | ⟨_, h, _⟩
      · omega
      · cases h⟩) (BxM.new W) h9 h11 hsh hsz).mono ?_
  rintro e w' ⟨x, M', rfl, hx, hv⟩
  refine ⟨⟨M', kids, x, rfl, hx⟩, ?_⟩
  refine hB.trans ((hab.trans (hv.kept.below (by simp) (fun y hy h => ?_))).mono hB.size)
  rcases h with h | ⟨_, h, _⟩
  · omega
  · cases h
theorem ms2 (w : World) : (Instr.makeSlice 27 (.int .i64 2) (.int .i64 2)).run Tryz.prog w = .ok (.slice (some ⟨w.heap.size, 0, none⟩) 2 2) (w.alloc (.cells #[.int .i64 0, .int .i64 0, .int .u64 0, .string ⟨#[]⟩, .slice none 0 0, .int .i64 0, .int .i64 0, .int .u64 0, .string ⟨#[]⟩, .slice none 0 0] 29)) := by kernel_rfl
theorem ms1 (w : World) : (Instr.makeSlice 27 (.int .i64 1) (.int .i64 1)).run Tryz.prog w = .ok (.slice (some ⟨w.heap.size, 0, none⟩) 1 1) (w.alloc (.cells #[.int .i64 0, .int .i64 0, .int .u64 0, .string ⟨#[]⟩, .slice none 0 0] 29)) := by kernel_rfl
def z1 : Fo := .cons 0 0 0 [] .nil .nil
def z2 : Fo := .cons 0 0 0 [] .nil z1
theorem fo_z1 {W : World} {b0 : Nat} (hb : Blk W b0 [.int .i64 0, .int .i64 0, .int .u64 0, .string ⟨#[]⟩, .slice none 0 0]) : FoAt (fun x => x < W.heap.size) W z1 (some ⟨b0, 0, none⟩) 1 1 := by
  refine ⟨_, ⟨⟨rfl, by omega, by unfold maxLen; omega, .inr ⟨b0, 0, rfl, hb.1, fun j hj => ?_⟩⟩, fun x _ hx => by cases hx; exact hb.1⟩, none, 0, 0, [], [], rfl, ⟨Rd.nil _ _, fun _ h => absurd h (by omega)⟩, rfl, rfl⟩
  rw [Nat.zero_add]
  exact (hb.2 j hj).1
theorem fo_z2 {W : World} {b0 : Nat} (hb : Blk W b0 [.int .i64 0, .int .i64 0, .int .u64 0, .string ⟨#[]⟩, .slice none 0 0, .int .i64 0, .int .i64 0, .int .u64 0, .string ⟨#[]⟩, .slice none 0 0]) : FoAt (fun x => x < W.heap.size) W z2 (some ⟨b0, 0, none⟩) 2 2 := by
  refine ⟨_, ⟨⟨rfl, by omega, by unfold maxLen; omega, .inr ⟨b0, 0, rfl, hb.1, fun j hj => ?_⟩⟩, fun x _ hx => by cases hx; exact hb.1⟩, none, 0, 0, [], _, rfl, ⟨Rd.nil _ _, fun _ h => absurd h (by omega)⟩, rfl, none, 0, 0, [], [], rfl, ⟨Rd.nil _ _, fun _ h => absurd h (by omega)⟩, rfl, rfl⟩
  rw [Nat.zero_add]
  exact (hb.2 j hj).1

set_option maxHeartbeats 8000000 in
set_option maxRecDepth 100000 in
theorem sampleN (k : Int) (w : World) : Calls Tryz.prog 8 #[.int .i64 k] w (SMP k w) := by
  have hmk := fun w => mk54 w
  have hm2 := fun w => ms2 w
  have hm1 := fun w => ms1 w
  go_enter Tryz.func8, Tryz.ntmps8
  by_cases h9 : k = 9
  · subst h9
    go_upto_region 7 with (fail)
    have hb1 := (Blk.new w #[.int .i64 9, .int .i64 0, .int .u64 0, .string ⟨#[]⟩, .slice (some ⟨w.heap.size + 1, 0, none⟩) 2 2] 29).alloc (.cells #[.int .i64 0, .int .i64 0, .int .u64 0, .string ⟨#[]⟩, .slice none 0 0, .int .i64 0, .int .i64 0, .int .u64 0, .string ⟨#[]⟩, .slice none 0 0] 29)
    have hb2 := Blk.new (w.alloc (.cells #[.int .i64 9, .int .i64 0, .int .u64 0, .string ⟨#[]⟩, .slice (some ⟨w.heap.size + 1, 0, none⟩) 2 2] 29)) #[.int .i64 0, .int .i64 0, .int .u64 0, .string ⟨#[]⟩, .slice none 0 0, .int .i64 0, .int .i64 0, .int .u64 0, .string ⟨#[]⟩, .slice none 0 0] 29
    have hB : Below w.heap.size w ((w.alloc (.cells #[.int .i64 9, .int .i64 0, .int .u64 0, .string ⟨#[]⟩, .slice (some ⟨w.heap.size + 1, 0, none⟩) 2 2] 29)).alloc (.cells #[.int .i64 0, .int .i64 0, .int .u64 0, .string ⟨#[]⟩, .slice none 0 0, .int .i64 0, .int .i64 0, .int .u64 0, .string ⟨#[]⟩, .slice none 0 0] 29)) := ((Below.refl _ w).alloc (Nat.le_refl _) _).alloc (by simp) _
    rw [show (w.alloc (.cells #[.int .i64 9, .int .i64 0, .int .u64 0, .string ⟨#[]⟩, .slice (some ⟨w.heap.size + 1, 0, none⟩) 2 2] 29)).heap.size = w.heap.size + 1 by simp] at hb2
    generalize (w.alloc (.cells #[.int .i64 9, .int .i64 0, .int .u64 0, .string ⟨#[]⟩, .slice (some ⟨w.heap.size + 1, 0, none⟩) 2 2] 29)).alloc (.cells #[.int .i64 0, .int .i64 0, .int .u64 0, .string ⟨#[]⟩, .slice none 0 0, .int .i64 0, .int .i64 0, .int .u64 0, .string ⟨#[]⟩, .slice none 0 0] 29) = W at *
    have hC := smp_call (k := 9) (fo_z2 hb2) hB (fun e => by first | rfl | cases e) (fun e => by first | rfl | cases e) (by simp [shapeF, z1, z2]) (by simp [sizeF, z1, z2])
    have HC := Lib.hid hC
    have hab : Below W.heap.size W (W.alloc (.map #[] 0)) := (Below.refl _ _).alloc (Nat.le_refl _) _
    obtain ⟨p, hp⟩ : ∃ p, p = w.heap.size := ⟨_, rfl⟩
    obtain ⟨p1, hp1⟩ : ∃ p, p = w.heap.size + 1 := ⟨_, rfl⟩
    rw [← hp1] at HC hb1
    rw [← hp] at hb1
    rw [← hp1, ← hp]
    have y0 := (hb1.below hab).cell 0 rfl
    have y1 := (hb1.below hab).cell 1 rfl
    have y2 := (hb1.below hab).cell 2 rfl
    have y3 := (hb1.below hab).cell 3 rfl
    have y4 := (hb1.below hab).cell 4 rfl
    clear hb1 hb2 hB hC hab hp hp1
    go_wp2_with (go_at_call 12; (with_reducible refine HC.out.mono ?_); rintro e2 w2 ⟨⟨M, f, x, rfl, hx⟩, hB⟩; have HB2 := Lib.hid hB; have HX := Lib.hid hx; clear hB hx)
    go_ret
    exact ⟨⟨M, f, x, rfl, HX.out⟩, HB2.out⟩
  · by_cases h11 : k = 11
    · subst h11
      go_upto_region 7 with (fail)
      have hb1 := (Blk.new w #[.int .i64 11, .int .i64 0, .int .u64 0, .string ⟨#[]⟩, .slice (some ⟨w.heap.size + 1, 0, none⟩) 1 1] 29).alloc (.cells #[.int .i64 0, .int .i64 0, .int .u64 0, .string ⟨#[]⟩, .slice none 0 0] 29)
      have hb2 := Blk.new (w.alloc (.cells #[.int .i64 11, .int .i64 0, .int .u64 0, .string ⟨#[]⟩, .slice (some ⟨w.heap.size + 1, 0, none⟩) 1 1] 29)) #[.int .i64 0, .int .i64 0, .int .u64 0, .string ⟨#[]⟩, .slice none 0 0] 29
      have hB : Below w.heap.size w ((w.alloc (.cells #[.int .i64 11, .int .i64 0, .int .u64 0, .string ⟨#[]⟩, .slice (some ⟨w.heap.size + 1, 0, none⟩) 1 1] 29)).alloc (.cells #[.int .i64 0, .int .i64 0, .int .u64 0, .string ⟨#[]⟩, .slice none 0 0] 29)) := ((Below.refl _ w).alloc (Nat.le_refl _) _).alloc (by simp) _
      rw [show (w.alloc (.cells #[.int .i64 11, .int .i64 0, .int .u64 0, .string ⟨#[]⟩, .slice (some ⟨w.heap.size + 1, 0, none⟩) 1 1] 29)).heap.size = w.heap.size + 1 by simp] at hb2
      generalize (w.alloc (.cells #[.int .i64 11, .int .i64 0, .int .u64 0, .string ⟨#[]⟩, .slice (some ⟨w.heap.size + 1, 0, none⟩) 1 1] 29)).alloc (.cells #[.int .i64 0, .int .i64 0, .int .u64 0, .string ⟨#[]⟩, .slice none 0 0] 29) = W at *
      have hC := smp_call (k := 11) (fo_z1 hb2) hB (fun e => by first | rfl | cases e) (fun e => by first | rfl | cases e) (by simp [shapeF, z1]) (by simp [sizeF, z1])
      have HC := Lib.hid hC
      have hab : Below W.heap.size W (W.alloc (.map #[] 0)) := (Below.refl _ _).alloc (Nat.le_refl _) _
      obtain ⟨p, hp⟩ : ∃ p, p = w.heap.size := ⟨_, rfl⟩
      obtain ⟨p1, hp1⟩ : ∃ p, p = w.heap.size + 1 := ⟨_, rfl⟩
      rw [← hp1] at HC hb1
      rw [← hp] at hb1
      rw [← hp1, ← hp]
      have y0 := (hb1.below hab).cell 0 rfl
      have y1 := (hb1.below hab).cell 1 rfl
      have y2 := (hb1.below hab).cell 2 rfl
      have y3 := (hb1.below hab).cell 3 rfl
      have y4 := (hb1.below hab).cell 4 rfl
      clear hb1 hb2 hB hC hab hp hp1
      go_wp2_with (go_at_call 12; (with_reducible refine HC.out.mono ?_); rintro e2 w2 ⟨⟨M, f, x, rfl, hx⟩, hB⟩; have HB2 := Lib.hid hB; have HX := Lib.hid hx; clear hB hx)
      go_ret
      exact ⟨⟨M, f, x, rfl, HX.out⟩, HB2.out⟩
    · go_upto_region 7 with (fail)
      have hb1 := Blk.new w #[.int .i64 k, .int .i64 0, .int .u64 0, .string ⟨#[]⟩, .slice none 0 0] 29
      have hB : Below w.heap.size w (w.alloc (.cells #[.int .i64 k, .int .i64 0, .int .u64 0, .string ⟨#[]⟩, .slice none 0 0] 29)) := (Below.refl _ w).alloc (Nat.le_refl _) _
      generalize w.alloc (.cells #[.int .i64 k, .int .i64 0, .int .u64 0, .string ⟨#[]⟩, .slice none 0 0] 29) = W at *
      have hC := smp_call (k := k) (kids := .nil) (FoAt.nil _ W) hB (fun e => absurd e h9) (fun e => absurd e h11) trivial (by simp [sizeF])
      have HC := Lib.hid hC
      have hab : Below W.heap.size W (W.alloc (.map #[] 0)) := (Below.refl _ _).alloc (Nat.le_refl _) _
      obtain ⟨p, hp⟩ : ∃ p, p = w.heap.size := ⟨_, rfl⟩
      rw [← hp] at hb1
      rw [← hp]
      have y0 := (hb1.below hab).cell 0 rfl
      have y1 := (hb1.below hab).cell 1 rfl
      have y2 := (hb1.below hab).cell 2 rfl
      have y3 := (hb1.below hab).cell 3 rfl
      have y4 := (hb1.below hab).cell 4 rfl
      clear hb1 hB hC hab hp
      go_wp2_with (go_at_call 12; (with_reducible refine HC.out.mono ?_); rintro e2 w2 ⟨⟨M, f, x, rfl, hx⟩, hB⟩; have HB2 := Lib.hid hB; have HX := Lib.hid hx; clear hB hx)
      go_ret
      exact ⟨⟨M, f, x, rfl, HX.out⟩, HB2.out⟩

/-- has at a kind's value -/
theorem hasN {k m : Int} {M : BM} {f : Fo} {x : Value} (h1 : 1 ≤ k) (h2 : k ≤ 13) (hx : vOne M k 0 0 [] (ValF M f) x) (w : World) : Calls Tryz.prog 7 #[x, .int .i64 m] w (fun e w' => e = .returned (.bool (hasK k m)) ∧ w' = w) := by
  rcases kinds_cases k with rfl | rfl | rfl | rfl | rfl | rfl | rfl | rfl | rfl | rfl | rfl | rfl | rfl | ⟨g1, g2, g3, g4, g5, g6, g7, g8, g9, g10, g11, g12, g13⟩
  rotate_right
  · omega
  · simp [vOne] at hx
    subst hx
    exact has68 _ m w
  · simp [vOne] at hx
    subst hx
    exact has69 _ m w
  · simp [vOne] at hx
    subst hx
    exact has71 _ m w
  · simp [vOne] at hx
    subst hx
    exact has73 _ m w
  · simp [vOne] at hx
    subst hx
    exact has74 _ m w
  · simp [vOne] at hx
    subst hx
    exact has75 _ m w
  · simp [vOne] at hx
    obtain ⟨_, _, _, rfl⟩ := hx
    exact has76 _ m w
  · simp [vOne] at hx
    obtain ⟨_, _, _, rfl⟩ := hx
    exact has78 _ m w
  · simp [vOne] at hx
    obtain ⟨_, _, _, rfl⟩ := hx
    exact has81 _ m w
  · simp [vOne] at hx
    subst hx
    exact has83 _ m w
  · simp [vOne] at hx
    obtain ⟨_, _, rfl⟩ := hx
    exact has84 _ m w
  · simp [vOne] at hx
    subst hx
    exact (has84 _ m w).mono (fun e w' h => by simpa [hasK] using h)
  · simp [vOne] at hx
    subst hx
    exact has88 _ m w
theorem hasK_out {k m : Int} (h : k ≤ 0 ∨ 14 ≤ k) : hasK k m = false := by
  unfold hasK
  repeat' split
  all_goals simp
  all_goals omega
set_option maxRecDepth 100000 in
theorem hasC (k m : Int) (w : World) : Calls Tryz.prog 4 #[.int .i64 k, .int .i64 m] w (fun e w' => e = .returned (.bool (hasK k m)) ∧ Below w.heap.size w w') := by
  go_enter Tryz.func4, Tryz.ntmps4
  by_cases h0 : k ≤ 0
  · go_wp2_with fail
    go_ret
    exact ⟨by rw [hasK_out (.inl h0)]; rfl, Below.refl _ _⟩
  · by_cases h14 : 14 ≤ k
    · go_wp2_with fail
      go_ret
      exact ⟨by rw [hasK_out (.inr h14)]; rfl, Below.refl _ _⟩
    · have HC := Lib.hid (sampleN k w)
      go_wp2_with (first
        | (go_at_call 8; (with_reducible refine HC.out.mono ?_); rintro e2 w2 ⟨⟨M, f, x, rfl, hx⟩, hB⟩; have HB2 := Lib.hid hB; have HX := Lib.hid (hasN (m := m) (by omega) (by omega) hx w2); clear hB hx)
        | (go_at_call 7; (with_reducible refine HX.out.mono ?_); rintro e3 w3 ⟨rfl, rfl⟩))
      go_ret
      exact ⟨rfl, HB2.out⟩
set_option maxRecDepth 100000 in
theorem datumHasT (k m : Int) {w : World} (hL : Lb w) : Calls Tryz.prog 3 #[.int .i64 k, .int .i64 m] w (fun e w' => e = .returned (.bool true) ∧ Below w.heap.size w w') := by
  have HC := Lib.hid (hasC k m w)
  have HAW := Lib.hid (fun (wx : World) (hx : Below w.heap.size w wx) => awakeT (hL.below hx hL.size))
  clear hL
  go_enter Tryz.func3, Tryz.ntmps3
  go_wp2_with (first
    | (go_at_call 4; (with_reducible refine HC.out.mono ?_); rintro e2 w2 ⟨rfl, hB⟩; have HB2 := Lib.hid hB; have HR := Lib.hid (rhasN k m w2); have HC3 := Lib.hid (HAW.out w2 HB2.out); clear hB)
    | (go_at_call 5; (with_reducible refine HR.out.mono ?_); rintro e3 w3 ⟨rfl, rfl⟩)
    | (go_at_call 6; (with_reducible refine HC3.out.mono ?_); rintro e4 w4 ⟨rfl, hB⟩; have HB4 := Lib.hid (HB2.out.trans (hB.mono HB2.out.size)); clear hB))
  go_ret
  exact ⟨rfl, HB4.out⟩
end Go.Proofs.YtofpdhkdnbnobaaGreatDoor
