/-
  walk over awake's errors (walks). Not a statement of the seat.
-/
import Derived.Test.YtbldidiibkcelaaGreatDoorEA4
import Derived.Test.YtbldidiibkcelaaGreatDoorHeldL
namespace Go.Proofs.YtbldidiibkcelaaGreatDoor
open Go.RowKit

def F53 (tb fb tt : Nat) : Value := .func (Fn.func 53) #[] #[.pointer (some ⟨tb, 0, none⟩), .pointer (some ⟨fb, 0, none⟩), .pointer (some ⟨tt, 0, none⟩)]
/-- the blocks that walk lays first -/
def ww (w : World) (a : Option Addr) (n c : Nat) (f : Value) : World := (w.alloc (.cells #[.slice a n c] 49)).alloc (.cells #[f] 78)
theorem ww_facts (w : World) (a : Option Addr) (n c : Nat) (f : Value) : Blk (ww w a n c f) w.heap.size [.slice a n c] ∧ Blk (ww w a n c f) (w.heap.size + 1) [f] ∧ Below w.heap.size w (ww w a n c f) := by
  have e1 : (w.alloc (.cells #[.slice a n c] 49)).heap.size = w.heap.size + 1 := by simp
  have n1 := Blk.new w #[.slice a n c] 49
  have n2 := Blk.new (w.alloc (.cells #[.slice a n c] 49)) #[f] 78
  rw [e1] at n2
  exact ⟨n1.alloc _, n2, ((Below.refl _ w).alloc (Nat.le_refl _) _).alloc (by rw [e1]; omega) _⟩
set_option maxRecDepth 100000 in
set_option maxHeartbeats 8000000 in
theorem walkP {w : World} {tb fb tt : Nat} {u : Bool} (hT : Blk w tb VP0) (hF : Blk w fb [.bool u]) (ht : tb ≠ fb) (a : Option Addr) (n c : Nat) :
    Calls Tryz.prog 52 #[I0, .slice a n c, F53 tb fb tt] w (fun e w' => e = .returned (.bool false) ∧ Kept (N1 fb) w w' ∧ Blk w' fb [.bool true]) := by
  obtain ⟨h1, h2, hB⟩ := ww_facts w a n c (F53 tb fb tt)
  have HC := Lib.hid (is53P (tt := tt) (hT.below hB) (hF.below hB) ht (.slice a n c))
  have HB := Lib.hid hB
  have x0 := h1.cell 0 rfl
  have y0 := h2.cell 0 rfl
  clear hT hF ht h1 h2 hB
  unfold I0 at HC ⊢
  unfold F53 at *
  go_enter Tryz.func52, Tryz.ntmps52
  go_upto_region 1 with (fail)
  change Code.wp _ _ _ _ (ww w a n c (.func (Fn.func 53) #[] #[.pointer (some ⟨tb, 0, none⟩), .pointer (some ⟨fb, 0, none⟩), .pointer (some ⟨tt, 0, none⟩)]))
  generalize ww w a n c (.func (Fn.func 53) #[] #[.pointer (some ⟨tb, 0, none⟩), .pointer (some ⟨fb, 0, none⟩), .pointer (some ⟨tt, 0, none⟩)]) = w1 at *
  go_wp2_with (go_at_call 53; (with_reducible refine HC.out.mono ?_); rintro e2 w2 ⟨rfl, hK, hf⟩; have HK2 := Lib.hid hK; have HF2 := Lib.hid hf; clear hK hf)
  go_ret
  exact ⟨rfl, (Kept.of' HB.out).tail HK2.out (fun _ _ h => h), HF2.out⟩
set_option maxRecDepth 100000 in
theorem clip84 (w : World) : Calls Tryz.prog 84 #[.slice none 0 0] w (fun e w' => e = .returned (.slice none 0 0) ∧ w' = w) := by
  go_enter Tryz.func84, Tryz.ntmps84
  go_wp2_with fail
  go_ret
  exact ⟨rfl, rfl⟩
theorem info3m : (Tryz.prog.info? 3).map (fun i => (i.zero, i.size, i.bytes)) = some (some (.int .i64 0), 1, 8) := by kernel_rfl
theorem info3 : ∃ i, Tryz.prog.info? 3 = some i ∧ i.zero = some (.int .i64 0) ∧ i.size = 1 ∧ i.bytes = 8 := by
  have h := info3m
  cases hi : Tryz.prog.info? 3 with
  | none => rw [hi] at h; cases h
  | some i =>
    rw [hi] at h
    simp only [Option.map_some, Option.some.injEq, Prod.mk.injEq] at h
    exact ⟨i, rfl, h.1, h.2.1, h.2.2⟩
set_option maxRecDepth 100000 in
set_option maxHeartbeats 8000000 in
theorem next83 {w : World} {tb fb tt wb db : Nat} {u : Bool} (hT : Blk w tb VP0) (hF : Blk w fb [.bool u]) (ht : tb ≠ fb) (hW : Blk w wb [.slice none 0 0]) (hD : Blk w db [F53 tb fb tt]) (hwb : wb ≠ fb) (hdb : db ≠ fb) :
    Calls Tryz.prog 83 #[.int .i64 0, I0, .pointer (some ⟨wb, 0, none⟩), .pointer (some ⟨db, 0, none⟩)] w (fun e w' => e = .returned (.bool false) ∧ Kept (N1 fb) w w' ∧ Blk w' fb [.bool true]) := by
  have HK := Lib.hid (show ∀ wx, Kept (N1 fb) w wx → (wx.cell? ⟨wb, 0, none⟩ = some (.slice none 0 0) ∧ wx.cell? ⟨db, 0, none⟩ = some (F53 tb fb tt)) from fun wx hx => ⟨(hW.keep hx (fun h => hwb h)).cell 0 rfl, (hD.keep hx (fun h => hdb h)).cell 0 rfl⟩)
  have HC := Lib.hid (fun (wx : World) (hx : Below w.heap.size w wx) (a : Option Addr) (n c : Nat) => show Calls Tryz.prog 52 #[I0, .slice a n c, F53 tb fb tt] wx (fun e w' => e = .returned (.bool false) ∧ Kept (N1 fb) w w' ∧ Blk w' fb [.bool true]) from
    (walkP (tt := tt) (hT.below hx) (hF.below hx) ht a n c).mono (fun _ _ h => ⟨h.1, (Kept.of' (N := N1 fb) hx).tail h.2.1 (fun _ _ h => h), h.2.2⟩))
  have HCL := Lib.hid (fun wx => clip84 wx)
  clear hT hF ht hW hD hwb hdb
  unfold I0 at HC ⊢
  go_enter Tryz.func83, Tryz.ntmps83
  go_upto_region 1 with fail
  go_region_held3 (fun wx : World => wx.cell? ⟨wb, 0, none⟩ = some (.slice none 0 0) ∧ wx.cell? ⟨db, 0, none⟩ = some (F53 tb fb tt))
    (first | exact HK.out _ (Kept.refl _ _) | exact HK.out _ (Kept.refl _ _).drew | exact HK.out _ ((Kept.refl _ _).alloc _).drew | exact HK.out _ ((Kept.refl _ _).drew.alloc _) | exact HK.out _ (((Kept.refl _ _).alloc _).alloc _).drew.drew | exact HK.out _ (((Kept.refl _ _).alloc _).drew.alloc _).drew | exact HK.out _ (((Kept.refl _ _).drew.alloc _).alloc _).drew | exact HK.out _ HK3.out)
    (first
      | (go_simp; go_at_call 84; (with_reducible refine (HCL.out _).mono ?_); rintro e2 w2 ⟨rfl, rfl⟩)
      | (go_simp; go_at_call 52; (with_reducible refine (HC.out _ (((((Below.refl _ w).alloc (Nat.le_refl _) _).alloc (by simp) _).drew).drew) _ _ _).mono ?_); rintro e3 w3 ⟨rfl, hK3, hF3⟩; have HK3 := Lib.hid hK3; have HF3 := Lib.hid hF3; clear hK3 hF3))
  all_goals
    go_wp2_with fail
    go_ret
    exact ⟨rfl, HK3.out, HF3.out⟩
end Go.Proofs.YtbldidiibkcelaaGreatDoor
