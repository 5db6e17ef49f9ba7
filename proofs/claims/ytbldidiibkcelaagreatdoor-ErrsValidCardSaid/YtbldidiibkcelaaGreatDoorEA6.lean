/-
  Is at awake's errors (walks). Not a statement of the seat.
-/
import Derived.Test.YtbldidiibkcelaaGreatDoorEA5
namespace Go.Proofs.YtbldidiibkcelaaGreatDoor
open Go.RowKit

theorem WAt.keep {w w' : World} {p b off fb : Nat} (h : WAt w p b off) (hK : Kept (N1 fb) w w') (hp : p ≠ fb) (hb : b ≠ fb) : WAt w' p b off :=
  ⟨h.1.keep hK (fun e => hp e), Nat.lt_of_lt_of_le h.2.1 hK.size, fun j hj => by rw [← h.2.2 j hj]; exact World.cell?_of_block (a := ⟨b, off + j, none⟩) (hK.block b h.2.1 (fun e => hb e))⟩
set_option maxRecDepth 100000 in
set_option maxHeartbeats 8000000 in
theorem walkW {w : World} {tb fb tt p b off : Nat} {u : Bool} (hA : WAt w p b off) (hp : p ≠ fb) (hb : b ≠ fb) (hT : Blk w tb VP0) (hF : Blk w fb [.bool u]) (ht : tb ≠ fb) :
    Calls Tryz.prog 52 #[IW p, .slice none 0 0, F53 tb fb tt] w (fun e w' => e = .returned (.bool false) ∧ Kept (N1 fb) w w' ∧ Blk w' fb [.bool true]) := by
  obtain ⟨h1, h2, hB⟩ := ww_facts w none 0 0 (F53 tb fb tt)
  have hlt := hF.1
  have HC := Lib.hid (is53W (tt := tt) (hA.below hB) (hT.below hB) (hF.below hB) ht (.slice none 0 0))
  have HB := Lib.hid hB
  have HCU := Lib.hid (fun (wx : World) (hx : Kept (N1 fb) w wx) => unwrap149 (hA.keep hx hp hb))
  have HCN := Lib.hid (fun (wx : World) (hx : Kept (N1 fb) w wx) (hf : Blk wx fb [.bool false]) (hw : Blk wx w.heap.size [.slice none 0 0]) (hd : Blk wx (w.heap.size + 1) [F53 tb fb tt]) =>
    show Calls Tryz.prog 83 #[.int .i64 0, I0, .pointer (some ⟨w.heap.size, 0, none⟩), .pointer (some ⟨w.heap.size + 1, 0, none⟩)] wx (fun e w' => e = .returned (.bool false) ∧ Kept (N1 fb) w w' ∧ Blk w' fb [.bool true]) from
      (next83 (hT.keep hx (fun e => ht e)) hf ht hw hd (by omega) (by omega)).mono (fun _ _ h => ⟨h.1, hx.tail h.2.1 (fun _ _ h => h), h.2.2⟩))
  have hmf : ∀ (fn : Fn) (first cap : Array Value) (w : World), (Instr.makeFunc fn first cap).run Tryz.prog w = .ok (.func fn first cap) w := fun _ _ _ _ => rfl
  have hta := fun v w => ta102_4 v w
  have hmu := fun v w => m102u v w
  have x0 := h1.cell 0 rfl
  have y0 := h2.cell 0 rfl
  have HH := Lib.hid (And.intro h1 (And.intro h2 (And.intro hlt hF)))
  clear hA hp hb hT hF ht h1 h2 hB hlt
  unfold IW at HC ⊢
  unfold I0 at HCU HCN
  unfold F53 at *
  go_enter Tryz.func52, Tryz.ntmps52
  go_upto_region 1 with (fail)
  change Code.wp _ _ _ _ (ww w none 0 0 (.func (Fn.func 53) #[] #[.pointer (some ⟨tb, 0, none⟩), .pointer (some ⟨fb, 0, none⟩), .pointer (some ⟨tt, 0, none⟩)]))
  generalize ww w none 0 0 (.func (Fn.func 53) #[] #[.pointer (some ⟨tb, 0, none⟩), .pointer (some ⟨fb, 0, none⟩), .pointer (some ⟨tt, 0, none⟩)]) = w1 at *
  go_upto_region 9 with (go_at_call 53; (with_reducible refine HC.out.mono ?_); rintro e2 w2 ⟨rfl, hK, hf⟩; have HK2 := Lib.hid ((Kept.of' (N := N1 fb) HB.out).tail hK (fun _ _ h => h)); have HF2 := Lib.hid hf; have HW2 := Lib.hid (HH.out.1.keep hK (fun e => by have h1 := HH.out.2.2.1; unfold N1 at e; omega)); have HD2 := Lib.hid (HH.out.2.1.keep hK (fun e => by have h1 := HH.out.2.2.1; unfold N1 at e; omega)); clear hK hf)
  go_wp2_with (first
    | (go_at_call 149; (with_reducible refine (HCU.out _ HK2.out).mono ?_); rintro e3 w3 ⟨rfl, hB3⟩; have HB3 := Lib.hid hB3; clear hB3)
    | (go_at_call 83; (with_reducible refine (HCN.out _ (HK2.out.calm HB3.out) (HF2.out.below HB3.out) (HW2.out.below HB3.out) (HD2.out.below HB3.out)).mono ?_); rintro e4 w4 ⟨rfl, hK4, hF4⟩; have HK4 := Lib.hid hK4; have HF4 := Lib.hid hF4; clear hK4 hF4))
  go_ret
  exact ⟨rfl, HK4.out, HF4.out⟩
set_option maxRecDepth 100000 in
set_option maxHeartbeats 8000000 in
theorem is51 {w : World} {vb tb tt p b off : Nat} (hV : Blk w vb [IW p]) (hA : WAt w p b off) (hT : Blk w tb VP0) :
    Calls Tryz.prog 51 #[.pointer (some ⟨vb, 0, none⟩), .pointer (some ⟨tb, 0, none⟩), .pointer (some ⟨tt, 0, none⟩)] w (fun e w' => e = .returned (.bool true) ∧ Below w.heap.size w w') := by
  have hB : Below w.heap.size w (w.alloc (.cells #[.bool false] 4)) := (Below.refl _ w).alloc (Nat.le_refl _) _
  have hF := Blk.new w #[.bool false] 4
  have HC := Lib.hid (fun (wx : World) (hx : Below w.heap.size w wx) (hf : Blk wx w.heap.size [.bool false]) => walkW (tt := tt) (fb := w.heap.size) (hA.below hx) (by have := hA.1.1; omega) (by have := hA.2.1; omega) (hT.below hx) hf (by have := hT.1; omega))
  have hmf : ∀ (fn : Fn) (first cap : Array Value) (w : World), (Instr.makeFunc fn first cap).run Tryz.prog w = .ok (.func fn first cap) w := fun _ _ _ _ => rfl
  have hv := hV.below hB
  have v0 := hv.cell 0 rfl
  have f0 := hF.cell 0 rfl
  have f1 := hF.free 0 (by simp)
  have HF := Lib.hid hF
  have HB := Lib.hid hB
  clear hV hA hT hv hF
  unfold F53 at HC
  go_enter Tryz.func51, Tryz.ntmps51
  go_upto_region 2 with (fail)
  generalize w.alloc (.cells #[.bool false] 4) = w1 at *
  go_wp2_with (go_at_call 52; (with_reducible refine (HC.out _ HB.out HF.out).mono ?_); rintro e3 w3 ⟨rfl, hK3, hF3⟩; have HK3 := Lib.hid hK3; have HF3 := Lib.hid hF3; have g0 := hF3.cell 0 rfl; clear hK3 hF3 f0 f1 v0)
  go_ret
  exact ⟨rfl, HB.out.trans (HK3.out.below HB.out.size (fun x hx e => by unfold N1 at e; omega))⟩
theorem catch_idle79 (p q : Addr) (w : World) :
    CallsD Tryz.prog 79 #[.pointer (some p), .pointer (some q)] .returning w fun e u' w' => e = .returned (.tuple #[]) ∧ u' = .returning ∧ w' = w := by
  refine callsD_of_wpS Tryz.func79 rfl fun c₀ cs hu => ?_
  apply wpS_seq
  apply wpS_region
  simp [wpOpsS, go_sem, recoverD, hu, Tryz.ntmps79, Exit.thenS]
  apply wpS_seq
  apply wpS_region
  simp [wpOpsS, go_sem, Exit.thenS]
  refine wpS_cond (t := false) (by simp [Act.eval, Array.replicate]) ?_
  simp only [Bool.false_eq_true, if_false]
  refine wpS_of_wp (wp_skip ?_)
  cases c₀
  simp_all [bodyPostS, results, Tryz.results79]
theorem c_res {tmps : Array Value} {w : World} {ib er : Nat} {x : Bool} {y : Int} (h2 : tmps.getD 2 undef = .pointer (some ⟨ib, 0, none⟩)) (h3 : tmps.getD 3 undef = .pointer (some ⟨er, 0, none⟩)) (hi : Blk w ib [.bool x]) (he : Blk w er [.int .i64 y]) :
    (results Tryz.f41 tmps).run Tryz.prog w = .ok (.tuple #[.bool x, .int .i64 y]) w := by
  have c0 := hi.cell 0 rfl
  have d0 := he.cell 0 rfl
  have h2' : tmps[2]?.getD undef = .pointer (some ⟨ib, 0, none⟩) := by simpa using h2
  have h3' : tmps[3]?.getD undef = .pointer (some ⟨er, 0, none⟩) := by simpa using h3
  simp [results, Tryz.results41, go_sem, h2', h3', c0, d0]
/-- the blocks that compared lays first -/
def cw (w : World) : World := (w.alloc (.cells #[.bool false] 4)).alloc (.cells #[.int .i64 0] 32)
theorem cw_facts (w : World) : Blk (cw w) w.heap.size [.bool false] ∧ Blk (cw w) (w.heap.size + 1) [.int .i64 0] ∧ Below w.heap.size w (cw w) := by
  have e1 : (w.alloc (.cells #[.bool false] 4)).heap.size = w.heap.size + 1 := by simp
  have n1 := Blk.new w #[.bool false] 4
  have n2 := Blk.new (w.alloc (.cells #[.bool false] 4)) #[.int .i64 0] 32
  rw [e1] at n2
  exact ⟨n1.alloc _, n2, ((Below.refl _ w).alloc (Nat.le_refl _) _).alloc (by rw [e1]; omega) _⟩
def F51 (vb tb tt : Nat) : Value := .func (Fn.func 51) #[] #[.pointer (some ⟨vb, 0, none⟩), .pointer (some ⟨tb, 0, none⟩), .pointer (some ⟨tt, 0, none⟩)]
set_option maxRecDepth 100000 in
set_option maxHeartbeats 8000000 in
theorem compared41 {w : World} {vb tb tt p b off : Nat} (hV : Blk w vb [IW p]) (hA : WAt w p b off) (hT : Blk w tb VP0) :
    Calls Tryz.prog 41 #[F51 vb tb tt] w (fun e w' => e = .returned (.tuple #[.bool true, .int .i64 0]) ∧ Below w.heap.size w w') := by
  obtain ⟨hI, hE, hB⟩ := cw_facts w
  have hmf : ∀ (fn : Fn) (first cap : Array Value) (w : World), (Instr.makeFunc fn first cap).run Tryz.prog w = .ok (.func fn first cap) w := fun _ _ _ _ => rfl
  have HC := Lib.hid (is51 (tt := tt) (hV.below hB) (hA.below hB) (hT.below hB))
  have HI := Lib.hid hI
  have HE := Lib.hid hE
  have HB := Lib.hid hB
  clear hV hA hT hI hE hB
  unfold F51
  go_enter_defers Tryz.func41, Tryz.ntmps41
  go_upto_region 1 with (fail)
  change Code.wp _ _ _ _ (cw w)
  generalize cw w = w1 at *
  obtain ⟨er, her⟩ : ∃ x, x = w.heap.size + 1 := ⟨_, rfl⟩
  obtain ⟨ib, hib⟩ : ∃ x, x = w.heap.size := ⟨_, rfl⟩
  rw [← her] at HE
  rw [← hib] at HI
  rw [← her, ← hib]
  have HAD := Lib.hid (show ib = w.heap.size ∧ er = w.heap.size + 1 from ⟨hib, her⟩)
  clear her hib
  go_wp2_with (go_at_call 51; (with_reducible refine HC.out.mono ?_); rintro eB wB ⟨rfl, hB⟩; have HBB := Lib.hid hB; have hi := HI.out.below hB; have he := HE.out.below hB; have i0 := hi.cell 0 rfl; have i1 := hi.free 0 (by simp); have e0 := he.cell 0 rfl; have e1 := he.free 0 (by simp); have hne : ib ≠ er := (by have := HAD.out; omega); have HI3 := Lib.hid hi; have HE3 := Lib.hid he; clear hB hi he)
  have hne : er ≠ ib := by have := HAD.out; omega
  refine leaves_cons (f := 79) (args := #[.pointer (some ⟨ib, 0, none⟩), .pointer (some ⟨er, 0, none⟩)]) (by simp) (by simp [go_sem]) ?_
  refine (catch_idle79 _ _ _).mono ?_
  rintro e u' w'' ⟨rfl, rfl, rfl⟩
  have hi4 := (HI3.out.set (j := 0) (.bool true)).other (p := ⟨er, 0, none⟩) (.int .i64 0) hne
  have he4 := (HE3.out.other (p := ⟨ib, 0, none⟩) (.bool true) (Ne.symm hne)).set (j := 0) (.int .i64 0)
  refine ⟨_, c_res rfl rfl hi4 he4, rfl, ?_⟩
  have h1 : Kept (fun x => x = ib ∨ x = er) wB ((wB.setCell ⟨ib, 0, none⟩ (.bool true)).setCell ⟨er, 0, none⟩ (.int .i64 0)) :=
    ((Kept.refl _ _).put (p := ⟨ib, 0, none⟩) _ (fun _ => .inl rfl)).put (p := ⟨er, 0, none⟩) _ (fun _ => .inr rfl)
  have h2 : Below w.heap.size w wB := HB.out.trans (HBB.out.mono HB.out.size)
  exact h2.trans (h1.below h2.size (fun x hx h => by have := HAD.out; omega))
end Go.Proofs.YtbldidiibkcelaaGreatDoor
