/-
  Text of awake's error (walk). Not a statement of the seat.
-/
import Derived.Test.YtbldidiibkcelaaGreatDoorEA1
namespace Go.Proofs.YtbldidiibkcelaaGreatDoor
open Go.RowKit

/-- the plain one's eleven cells in memory -/
def PAt (w : World) (b off : Nat) : Prop := b < w.heap.size ∧ ∀ j, j < 11 → w.cell? ⟨b, off + j, none⟩ = VP0[j]?
theorem PAt.below {w w' : World} {b off : Nat} (h : PAt w b off) (hB : Below w.heap.size w w') : PAt w' b off :=
  ⟨Nat.lt_of_lt_of_le h.1 hB.size, fun j hj => by rw [← h.2 j hj]; exact World.cell?_of_block (a := ⟨b, off + j, none⟩) (hB.block b h.1)⟩
def IW (p : Nat) : Value := .iface 102 (.pointer (some ⟨p, 0, none⟩))
theorem valueW {b off : Nat} {w : World} (hP : PAt w b off) : Calls Tryz.prog 50 #[W0 (some ⟨b, off, none⟩)] w (fun e w' => ∃ p, e = .returned (IW p) ∧ WAt w' p b off ∧ Below w.heap.size w w' ∧ w.heap.size ≤ p ∧ p < w'.heap.size) := by
  refine (evalueN 3 1 0 [119] Dt.zero none 0 0 none 0 0 (some ⟨b, off, none⟩) 1 1 w).mono ?_
  rintro e w' ⟨rfl, hB, _, hP2⟩
  have h := hP2 (.inr (.inl rfl))
  exact ⟨w.heap.size + 1, rfl, ⟨h, (hP.below hB).1, (hP.below hB).2⟩, hB, by omega, h.1⟩
theorem catch_idle61 (p q : Addr) (w : World) :
    CallsD Tryz.prog 61 #[.pointer (some p), .pointer (some q)] .returning w fun e u' w' => e = .returned (.tuple #[]) ∧ u' = .returning ∧ w' = w := by
  refine callsD_of_wpS Tryz.func61 rfl fun c₀ cs hu => ?_
  apply wpS_seq
  apply wpS_region
  simp [wpOpsS, go_sem, recoverD, hu, Tryz.ntmps61, Exit.thenS]
  refine wpS_cond (t := false) (by simp [Act.eval, Array.replicate]) ?_
  simp only [Bool.false_eq_true, if_false]
  refine wpS_of_wp (wp_skip ?_)
  cases c₀
  simp_all [bodyPostS, results, Tryz.results61]
theorem t_res {tmps : Array Value} {w : World} {ib er : Nat} {x : ByteArray} {y : Int} (h2 : tmps.getD 2 undef = .pointer (some ⟨ib, 0, none⟩)) (h3 : tmps.getD 3 undef = .pointer (some ⟨er, 0, none⟩)) (hi : Blk w ib [.string x]) (he : Blk w er [.int .i64 y]) :
    (results Tryz.f26 tmps).run Tryz.prog w = .ok (.tuple #[.string x, .int .i64 y]) w := by
  have c0 := hi.cell 0 rfl
  have d0 := he.cell 0 rfl
  have h2' : tmps[2]?.getD undef = .pointer (some ⟨ib, 0, none⟩) := by simpa using h2
  have h3' : tmps[3]?.getD undef = .pointer (some ⟨er, 0, none⟩) := by simpa using h3
  simp [results, Tryz.results26, go_sem, h2', h3', c0, d0]
/-- the blocks that Text lays first -/
def tw (w : World) (l : Option Addr) : World := ((ebox w 3 1 0 [119] Dt.zero none 0 0 none 0 0 l 1 1).alloc (.cells #[.string ⟨#[]⟩] 9)).alloc (.cells #[.int .i64 0] 32)
theorem tw_facts (w : World) (l : Option Addr) : Blk (tw w l) w.heap.size (VW0 l) ∧ Blk (tw w l) (w.heap.size + 1) [.string ⟨#[]⟩] ∧ Blk (tw w l) (w.heap.size + 1 + 1) [.int .i64 0] ∧ Below w.heap.size w (tw w l) ∧ (tw w l).heap.size = w.heap.size + 3 := by
  have e1 := ebox_size w 3 1 0 [119] Dt.zero none 0 0 none 0 0 l 1 1
  have h1 := ebox_blk w 3 1 0 [119] Dt.zero none 0 0 none 0 0 l 1 1
  have hb := ebox_below w 3 1 0 [119] Dt.zero none 0 0 none 0 0 l 1 1
  unfold tw
  generalize ebox w 3 1 0 [119] Dt.zero none 0 0 none 0 0 l 1 1 = w1 at *
  have e2 : (w1.alloc (.cells #[.string ⟨#[]⟩] 9)).heap.size = w.heap.size + 1 + 1 := by simp [e1]
  have n1 := Blk.new w1 #[.string ⟨#[]⟩] 9
  have n2 := Blk.new (w1.alloc (.cells #[.string ⟨#[]⟩] 9)) #[.int .i64 0] 32
  rw [e1] at n1
  rw [e2] at n2
  exact ⟨(h1.alloc _).alloc _, n1.alloc _, n2, (hb.alloc hb.size _).alloc (by rw [e2]; omega) _, by simp [e1]⟩

set_option maxHeartbeats 8000000 in
set_option maxRecDepth 100000 in
theorem textW {b off : Nat} {w : World} (hP : PAt w b off) : Calls Tryz.prog 26 #[W0 (some ⟨b, off, none⟩)] w (fun e w' => e = .returned (.tuple #[.string ⟨#[119, 58, 32, 112]⟩, .int .i64 0]) ∧ Below w.heap.size w w') := by
  obtain ⟨hA, hI, hE, hB, hz⟩ := tw_facts w (some ⟨b, off, none⟩)
  have hmf : ∀ (fn : Fn) (first cap : Array Value) (w : World), (Instr.makeFunc fn first cap).run Tryz.prog w = .ok (.func fn first cap) w := fun _ _ _ _ => rfl
  have hm := fun v w => m102e v w
  have HP := Lib.hid hP
  have HB := Lib.hid hB
  have HZ := Lib.hid hz
  clear hP hB hz
  unfold W0 vE Dt.zero
  go_enter_defers Tryz.func26, Tryz.ntmps26
  go_upto_region 1 with (fail)
  change Code.wp _ _ _ _ (tw w (some ⟨b, off, none⟩))
  generalize tw w (some ⟨b, off, none⟩) = w1 at *
  have HC := Lib.hid (valueW (HP.out.below HB.out))
  unfold W0 vE at HC
  obtain ⟨er, her⟩ : ∃ x, x = w.heap.size + 1 + 1 := ⟨_, rfl⟩
  obtain ⟨ib, hib⟩ : ∃ x, x = w.heap.size + 1 := ⟨_, rfl⟩
  rw [← her] at hE
  rw [← hib] at hI
  rw [← her, ← hib]
  have HAD := Lib.hid (show ib = w.heap.size + 1 ∧ er = w.heap.size + 2 from ⟨hib, by omega⟩)
  have x0 := hA.cell 0 rfl; have x1 := hA.cell 1 rfl; have x2 := hA.cell 2 rfl; have x3 := hA.cell 3 rfl; have x4 := hA.cell 4 rfl; have x5 := hA.cell 5 rfl; have x6 := hA.cell 6 rfl; have x7 := hA.cell 7 rfl; have x8 := hA.cell 8 rfl; have x9 := hA.cell 9 rfl; have x10 := hA.cell 10 rfl
  have HI := Lib.hid hI
  have HE := Lib.hid hE
  clear hA hI hE her hib
  go_upto_region 2 with (go_at_call 50; (with_reducible refine HC.out.mono ?_); rintro eA wA ⟨p, rfl, hW, hBA, hp1, hp2⟩; have HBA := Lib.hid hBA; have HER := Lib.hid (error148 hW); have HI2 := Lib.hid (HI.out.below hBA); have HE2 := Lib.hid (HE.out.below hBA); clear hBA hW hp1 hp2)
  clear x0 x1 x2 x3 x4 x5 x6 x7 x8 x9 x10
  unfold IW
  go_wp2_with (go_at_call 148; (with_reducible refine HER.out.mono ?_); rintro eB wB ⟨rfl, hB⟩; have HBB := Lib.hid hB; have hi := HI2.out.below hB; have he := HE2.out.below hB; have i0 := hi.cell 0 rfl; have i1 := hi.free 0 (by simp); have e0 := he.cell 0 rfl; have e1 := he.free 0 (by simp); have hne : ib ≠ er := (by have := HAD.out; omega); have HI3 := Lib.hid hi; have HE3 := Lib.hid he; clear hB hi he)
  have hne : er ≠ ib := by have := HAD.out; omega
  refine leaves_cons (f := 61) (args := #[.pointer (some ⟨ib, 0, none⟩), .pointer (some ⟨er, 0, none⟩)]) (by simp) (by simp [go_sem]) ?_
  refine (catch_idle61 _ _ _).mono ?_
  rintro e u' w'' ⟨rfl, rfl, rfl⟩
  have hi4 := (HI3.out.set (j := 0) (.string ⟨#[119, 58, 32, 112]⟩)).other (p := ⟨er, 0, none⟩) (.int .i64 0) hne
  have he4 := (HE3.out.other (p := ⟨ib, 0, none⟩) (.string ⟨#[119, 58, 32, 112]⟩) (Ne.symm hne)).set (j := 0) (.int .i64 0)
  refine ⟨_, t_res rfl rfl hi4 he4, rfl, ?_⟩
  have h1 : Kept (fun x => x = ib ∨ x = er) wB ((wB.setCell ⟨ib, 0, none⟩ (.string ⟨#[119, 58, 32, 112]⟩)).setCell ⟨er, 0, none⟩ (.int .i64 0)) :=
    ((Kept.refl _ _).put (p := ⟨ib, 0, none⟩) _ (fun _ => .inl rfl)).put (p := ⟨er, 0, none⟩) _ (fun _ => .inr rfl)
  have h2 : Below w.heap.size w wB := HB.out.trans ((HBA.out.trans (HBB.out.mono HBA.out.size)).mono HB.out.size)
  exact h2.trans (h1.below h2.size (fun x hx h => by have := HAD.out; omega))
end Go.Proofs.YtbldidiibkcelaaGreatDoor
