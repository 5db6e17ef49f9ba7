/-
  back of an error value, errors.Unwrap, Unwrap (walks). Not a statement of the seat.
-/
import Derived.Test.YtbldidiibkcelaaGreatDoorTEUnwP
namespace Go.Proofs.YtbldidiibkcelaaGreatDoor
open Go.RowKit

theorem hol89 (v : Value) (w : World) : (Instr.typeAssert (.iface 89 v) 68 72 true).run Tryz.prog w = .ok (.tuple #[.iface 89 v, .bool true]) w := run_typeAssert_hasB Tryz.underlying72 (by kernel_rfl) v 68 w
theorem hol101 (v : Value) (w : World) : (Instr.typeAssert (.iface 101 v) 68 72 true).run Tryz.prog w = .ok (.tuple #[.iface 101 v, .bool true]) w := run_typeAssert_hasB Tryz.underlying72 (by kernel_rfl) v 68 w
theorem hol102 (v : Value) (w : World) : (Instr.typeAssert (.iface 102 v) 68 72 true).run Tryz.prog w = .ok (.tuple #[.iface 102 v, .bool true]) w := run_typeAssert_hasB Tryz.underlying72 (by kernel_rfl) v 68 w
theorem hol103 (v : Value) (w : World) : (Instr.typeAssert (.iface 103 v) 68 72 true).run Tryz.prog w = .ok (.tuple #[.iface 103 v, .bool true]) w := run_typeAssert_hasB Tryz.underlying72 (by kernel_rfl) v 68 w
theorem hol106 (v : Value) (w : World) : (Instr.typeAssert (.iface 106 v) 68 72 true).run Tryz.prog w = .ok (.tuple #[.iface 106 v, .bool true]) w := run_typeAssert_hasB Tryz.underlying72 (by kernel_rfl) v 68 w
theorem hol107 (v : Value) (w : World) : (Instr.typeAssert (.iface 107 v) 68 72 true).run Tryz.prog w = .ok (.tuple #[.iface 107 v, .bool true]) w := run_typeAssert_hasB Tryz.underlying72 (by kernel_rfl) v 68 w
theorem hol108 (v : Value) (w : World) : (Instr.typeAssert (.iface 108 v) 68 72 true).run Tryz.prog w = .ok (.tuple #[.iface 108 v, .bool true]) w := run_typeAssert_hasB Tryz.underlying72 (by kernel_rfl) v 68 w
theorem hol109 (v : Value) (w : World) : (Instr.typeAssert (.iface 109 v) 68 72 true).run Tryz.prog w = .ok (.tuple #[.iface 109 v, .bool true]) w := run_typeAssert_hasB Tryz.underlying72 (by kernel_rfl) v 68 w
theorem hol110 (v : Value) (w : World) : (Instr.typeAssert (.iface 110 v) 68 72 true).run Tryz.prog w = .ok (.tuple #[.iface 110 v, .bool true]) w := run_typeAssert_hasB Tryz.underlying72 (by kernel_rfl) v 68 w
theorem hol0 (w : World) : (Instr.typeAssert .nilIface 68 72 true).run Tryz.prog w = .ok (.tuple #[.nilIface, .bool false]) w := by kernel_rfl
theorem unt89 (v : Value) (w : World) : (Instr.typeAssert (.iface 89 v) 68 125 true).run Tryz.prog w = .ok (.tuple #[.nilIface, .bool false]) w := run_typeAssert_lacksB Tryz.underlying125 (by kernel_rfl) (by kernel_rfl) v 68 w
theorem unt101 (v : Value) (w : World) : (Instr.typeAssert (.iface 101 v) 68 125 true).run Tryz.prog w = .ok (.tuple #[.nilIface, .bool false]) w := run_typeAssert_lacksB Tryz.underlying125 (by kernel_rfl) (by kernel_rfl) v 68 w
theorem unt102 (v : Value) (w : World) : (Instr.typeAssert (.iface 102 v) 68 125 true).run Tryz.prog w = .ok (.tuple #[.iface 102 v, .bool true]) w := run_typeAssert_hasB Tryz.underlying125 (by kernel_rfl) v 68 w
theorem unt103 (v : Value) (w : World) : (Instr.typeAssert (.iface 103 v) 68 125 true).run Tryz.prog w = .ok (.tuple #[.nilIface, .bool false]) w := run_typeAssert_lacksB Tryz.underlying125 (by kernel_rfl) (by kernel_rfl) v 68 w
theorem unt106 (v : Value) (w : World) : (Instr.typeAssert (.iface 106 v) 68 125 true).run Tryz.prog w = .ok (.tuple #[.nilIface, .bool false]) w := run_typeAssert_lacksB Tryz.underlying125 (by kernel_rfl) (by kernel_rfl) v 68 w
theorem unt107 (v : Value) (w : World) : (Instr.typeAssert (.iface 107 v) 68 125 true).run Tryz.prog w = .ok (.tuple #[.nilIface, .bool false]) w := run_typeAssert_lacksB Tryz.underlying125 (by kernel_rfl) (by kernel_rfl) v 68 w
theorem unt108 (v : Value) (w : World) : (Instr.typeAssert (.iface 108 v) 68 125 true).run Tryz.prog w = .ok (.tuple #[.iface 108 v, .bool true]) w := run_typeAssert_hasB Tryz.underlying125 (by kernel_rfl) v 68 w
theorem unt109 (v : Value) (w : World) : (Instr.typeAssert (.iface 109 v) 68 125 true).run Tryz.prog w = .ok (.tuple #[.nilIface, .bool false]) w := run_typeAssert_lacksB Tryz.underlying125 (by kernel_rfl) (by kernel_rfl) v 68 w
theorem unt110 (v : Value) (w : World) : (Instr.typeAssert (.iface 110 v) 68 125 true).run Tryz.prog w = .ok (.tuple #[.nilIface, .bool false]) w := run_typeAssert_lacksB Tryz.underlying125 (by kernel_rfl) (by kernel_rfl) v 68 w
theorem unt0 (w : World) : (Instr.typeAssert .nilIface 68 125 true).run Tryz.prog w = .ok (.tuple #[.nilIface, .bool false]) w := by kernel_rfl
/-- what made comes to -/
def MD (S : Nat → Prop) (k i c : Int) (t : Bs) (b : Dt) (cs : List Int) (kids : Eo) (w : World) (r : Ending) (w' : World) : Prop :=
  ∃ bl bn bc cl cn cc l n cap, r = .returned (vE k i c t b bl bn bc cl cn cc l n cap) ∧ ErAt S w' ⟨k, i, c, t, b, cs, kids⟩ bl bn bc cl cn cc l n cap ∧ Below w.heap.size w w'
theorem ce_fin {fn : Func} {w w2 wr : World} {kids : Eo} {k i c : Int} {t : Bs} {b : Dt} {cs : List Int} {bl : Option Addr} {bn bc : Nat} {cl : Option Addr} {cn cc : Nat} {l : Option Addr} {n cap z : Nat} {vs : List Value} {tmps : Array Value} (hr : fn.results = #[ResultVar.cell 2 29]) (ht : tmps.getD 2 undef = .pointer (some ⟨z, 0, none⟩))
    (hz : w.heap.size ≤ z ∧ z < w2.heap.size) (hBW : Below w.heap.size w w2) (hZ : Blk wr z Z11) (hF : FoAt (fun x => w2.heap.size ≤ x) wr b.l bl bn bc) (hC : Row w2.heap.size wr 1 cl cn cc (I8 cs)) (hR : Row w2.heap.size wr 11 l n cap vs ∧ EAt (fun x => w2.heap.size ≤ x ∧ blockOf l ≠ some x) wr kids vs) (hB2 : Below w2.heap.size w2 wr) :
    bodyPost Tryz.prog fn (CLE k i c t b cs kids w) Exit.ret { tmps := tmps, defers := [] } (st11 wr z (.int .i64 k) (.int .i64 i) (.int .i64 c) (.string ⟨t.toArray⟩) (.int .i64 b.k) (.int .i64 b.i) (.int .u64 b.b) (.string ⟨b.t.toArray⟩) (.slice bl bn bc) (.slice cl cn cc) (.slice l n cap)) := by
  refine bodyPost_ret (er_res hr ht hZ) rfl ?_
  have h1 := st11_kept (w := wr) (b := z) (.int .i64 k) (.int .i64 i) (.int .i64 c) (.string ⟨t.toArray⟩) (.int .i64 b.k) (.int .i64 b.i) (.int .u64 b.b) (.string ⟨b.t.toArray⟩) (.slice bl bn bc) (.slice cl cn cc) (.slice l n cap)
  generalize st11 wr z (.int .i64 k) (.int .i64 i) (.int .i64 c) (.string ⟨t.toArray⟩) (.int .i64 b.k) (.int .i64 b.i) (.int .u64 b.b) (.string ⟨b.t.toArray⟩) (.slice bl bn bc) (.slice cl cn cc) (.slice l n cap) = wz at *
  have hs := hBW.size
  have hs2 := hB2.size
  refine ⟨bl, bn, bc, cl, cn, cc, l, n, cap, vs, rfl, hF.same (fun x hx hl => h1.block x hl (fun e => ?_)) (fun x hx _ => ?_), (hC.keep h1 (fun x hx e => ?_)).mono (by omega), ⟨(hR.1.keep h1 (fun x hx e => ?_)).mono (by omega), EAt.same _ hR.2 (fun x hx hlt => h1.block x hlt (fun e => ?_)) (fun x hx _ => ⟨?_, hx.2⟩)⟩,
    hBW.trans ((hB2.mono (by omega)).trans (h1.below (by omega) (fun x hx e => by unfold N1 at e; omega)))⟩
  · have h9 : w2.heap.size ≤ x := hx
    unfold N1 at e; omega
  · have h9 : w2.heap.size ≤ x := hx
    omega
  · have := (hC.lt x hx).1; unfold N1 at e; omega
  · have := (hR.1.lt x hx).1; unfold N1 at e; omega
  · have := hx.1; unfold N1 at e; omega
  · have := hx.1; omega
theorem ErAt.none {S : Nat → Prop} {w : World} {k i c : Int} {t : Bs} : ErAt S w ⟨k, i, c, t, Dt.zero, [], .nil⟩ none 0 0 none 0 0 none 0 0 :=
  ⟨FoAt.nil _ _, ⟨Rd.nil _ _, fun _ h => absurd h (by omega)⟩, EoAt.nil _ _⟩
theorem CLE.zero (w : World) : CLE 0 0 0 [] Dt.zero [] .nil w (.returned (vE 0 0 0 [] Dt.zero none 0 0 none 0 0 none 0 0)) w :=
  ⟨none, 0, 0, none, 0, 0, none, 0, 0, [], rfl, FoAt.nil _ _, Row.nil _ _ _, ⟨Row.nil _ _ _, rfl⟩, Below.refl _ _⟩
set_option maxRecDepth 100000 in
set_option maxHeartbeats 8000000 in
theorem bk89 {S : Nat → Prop} {val : Value} {k i c : Int} {t : Bs} {b : Dt} {cs : List Int} {kids : Eo} {w : World} (hS : ∀ x, S x → x < w.heap.size) (hok : okS ⟨k, i, c, t, b, cs, kids⟩) (HM : ∀ wx, Below w.heap.size w wx → Calls Tryz.prog 144 #[val] wx (MD S k i c t b cs kids wx)) :
    Calls Tryz.prog 58 #[.iface 89 val] w (CLE k i c t b cs kids w) := by
  have hA := zbox_blk w
  have hB := zbox_below w
  have hsz := zbox_size w
  have hta := fun v w => hol89 v w
  have hmm := fun v w => made144 v w
  have HS := Lib.hid hS
  have HOK := Lib.hid hok
  have HMM := Lib.hid HM
  clear hS hok HM
  go_enter Tryz.func58, Tryz.ntmps58
  go_upto_region 1 with (fail)
  change Code.wp _ _ _ _ (zbox w)
  generalize zbox w = w1 at *
  obtain ⟨z, hz⟩ : ∃ x, x = w.heap.size := ⟨_, rfl⟩
  rw [← hz] at hA
  rw [← hz]
  have HZ := Lib.hid hA
  have HB := Lib.hid hB
  have HZS := Lib.hid (And.intro hz hsz)
  clear hA hB hz hsz
  go_wp2_with (first
    | (go_at_call 144; (with_reducible refine (HMM.out _ HB.out).mono ?_); intro r2 w2 hmd; obtain ⟨bl, bn, bc, cl, cn, cc, l, n, cap, rfl, hE2, hB2⟩ := hmd
       have HB2 := Lib.hid (HB.out.trans (hB2.mono HB.out.size))
       have HC := Lib.hid (ecloneG kids k i c t b cs bl bn bc cl cn cc l n cap S w2 hE2 (fun x hx => Nat.lt_of_lt_of_le (HS.out x hx) HB2.out.size) HOK.out.1 HOK.out.2.1 HOK.out.2.2.1 HOK.out.2.2.2)
       have HZ2 := Lib.hid (HZ.out.below hB2)
       have HS2 := Lib.hid hB2.size
       unfold vE at HC ⊢
       clear hE2 hB2)
    | (go_at_call 57; (with_reducible refine HC.out.mono ?_); intro r3 w3 hcl; obtain ⟨bl3, bn3, bc3, cl3, cn3, cc3, l3, n3, cap3, vs3, rfl, hF3, hR3, hT3, hB3⟩ := hcl
       have HZ9 := Lib.hid (HZ2.out.below hB3)
       have HR := Lib.hid (And.intro hF3 (And.intro hR3 (And.intro hT3 hB3)))
       have c0 := HZ9.out.cell 0 rfl; have f0 := HZ9.out.free 0 (by simp [Z11]); have c1 := HZ9.out.cell 1 rfl; have f1 := HZ9.out.free 1 (by simp [Z11]); have c2 := HZ9.out.cell 2 rfl; have f2 := HZ9.out.free 2 (by simp [Z11]); have c3 := HZ9.out.cell 3 rfl; have f3 := HZ9.out.free 3 (by simp [Z11]); have c4 := HZ9.out.cell 4 rfl; have f4 := HZ9.out.free 4 (by simp [Z11]); have c5 := HZ9.out.cell 5 rfl; have f5 := HZ9.out.free 5 (by simp [Z11]); have c6 := HZ9.out.cell 6 rfl; have f6 := HZ9.out.free 6 (by simp [Z11]); have c7 := HZ9.out.cell 7 rfl; have f7 := HZ9.out.free 7 (by simp [Z11]); have c8 := HZ9.out.cell 8 rfl; have f8 := HZ9.out.free 8 (by simp [Z11]); have c9 := HZ9.out.cell 9 rfl; have f9 := HZ9.out.free 9 (by simp [Z11]); have c10 := HZ9.out.cell 10 rfl; have f10 := HZ9.out.free 10 (by simp [Z11])
       unfold vE
       clear hF3 hR3 hT3 hB3))
  exact ce_fin Tryz.results58 rfl (by have := HZS.out; have := HS2.out; omega) HB2.out HZ9.out HR.out.1 HR.out.2.1 HR.out.2.2.1 HR.out.2.2.2
set_option maxRecDepth 100000 in
set_option maxHeartbeats 8000000 in
theorem bk101 {S : Nat → Prop} {val : Value} {k i c : Int} {t : Bs} {b : Dt} {cs : List Int} {kids : Eo} {w : World} (hS : ∀ x, S x → x < w.heap.size) (hok : okS ⟨k, i, c, t, b, cs, kids⟩) (HM : ∀ wx, Below w.heap.size w wx → Calls Tryz.prog 147 #[val] wx (MD S k i c t b cs kids wx)) :
    Calls Tryz.prog 58 #[.iface 101 val] w (CLE k i c t b cs kids w) := by
  have hA := zbox_blk w
  have hB := zbox_below w
  have hsz := zbox_size w
  have hta := fun v w => hol101 v w
  have hmm := fun v w => made147' v w
  have HS := Lib.hid hS
  have HOK := Lib.hid hok
  have HMM := Lib.hid HM
  clear hS hok HM
  go_enter Tryz.func58, Tryz.ntmps58
  go_upto_region 1 with (fail)
  change Code.wp _ _ _ _ (zbox w)
  generalize zbox w = w1 at *
  obtain ⟨z, hz⟩ : ∃ x, x = w.heap.size := ⟨_, rfl⟩
  rw [← hz] at hA
  rw [← hz]
  have HZ := Lib.hid hA
  have HB := Lib.hid hB
  have HZS := Lib.hid (And.intro hz hsz)
  clear hA hB hz hsz
  go_wp2_with (first
    | (go_at_call 147; (with_reducible refine (HMM.out _ HB.out).mono ?_); intro r2 w2 hmd; obtain ⟨bl, bn, bc, cl, cn, cc, l, n, cap, rfl, hE2, hB2⟩ := hmd
       have HB2 := Lib.hid (HB.out.trans (hB2.mono HB.out.size))
       have HC := Lib.hid (ecloneG kids k i c t b cs bl bn bc cl cn cc l n cap S w2 hE2 (fun x hx => Nat.lt_of_lt_of_le (HS.out x hx) HB2.out.size) HOK.out.1 HOK.out.2.1 HOK.out.2.2.1 HOK.out.2.2.2)
       have HZ2 := Lib.hid (HZ.out.below hB2)
       have HS2 := Lib.hid hB2.size
       unfold vE at HC ⊢
       clear hE2 hB2)
    | (go_at_call 57; (with_reducible refine HC.out.mono ?_); intro r3 w3 hcl; obtain ⟨bl3, bn3, bc3, cl3, cn3, cc3, l3, n3, cap3, vs3, rfl, hF3, hR3, hT3, hB3⟩ := hcl
       have HZ9 := Lib.hid (HZ2.out.below hB3)
       have HR := Lib.hid (And.intro hF3 (And.intro hR3 (And.intro hT3 hB3)))
       have c0 := HZ9.out.cell 0 rfl; have f0 := HZ9.out.free 0 (by simp [Z11]); have c1 := HZ9.out.cell 1 rfl; have f1 := HZ9.out.free 1 (by simp [Z11]); have c2 := HZ9.out.cell 2 rfl; have f2 := HZ9.out.free 2 (by simp [Z11]); have c3 := HZ9.out.cell 3 rfl; have f3 := HZ9.out.free 3 (by simp [Z11]); have c4 := HZ9.out.cell 4 rfl; have f4 := HZ9.out.free 4 (by simp [Z11]); have c5 := HZ9.out.cell 5 rfl; have f5 := HZ9.out.free 5 (by simp [Z11]); have c6 := HZ9.out.cell 6 rfl; have f6 := HZ9.out.free 6 (by simp [Z11]); have c7 := HZ9.out.cell 7 rfl; have f7 := HZ9.out.free 7 (by simp [Z11]); have c8 := HZ9.out.cell 8 rfl; have f8 := HZ9.out.free 8 (by simp [Z11]); have c9 := HZ9.out.cell 9 rfl; have f9 := HZ9.out.free 9 (by simp [Z11]); have c10 := HZ9.out.cell 10 rfl; have f10 := HZ9.out.free 10 (by simp [Z11])
       unfold vE
       clear hF3 hR3 hT3 hB3))
  exact ce_fin Tryz.results58 rfl (by have := HZS.out; have := HS2.out; omega) HB2.out HZ9.out HR.out.1 HR.out.2.1 HR.out.2.2.1 HR.out.2.2.2
set_option maxRecDepth 100000 in
set_option maxHeartbeats 8000000 in
theorem bk102 {S : Nat → Prop} {val : Value} {k i c : Int} {t : Bs} {b : Dt} {cs : List Int} {kids : Eo} {w : World} (hS : ∀ x, S x → x < w.heap.size) (hok : okS ⟨k, i, c, t, b, cs, kids⟩) (HM : ∀ wx, Below w.heap.size w wx → Calls Tryz.prog 150 #[val] wx (MD S k i c t b cs kids wx)) :
    Calls Tryz.prog 58 #[.iface 102 val] w (CLE k i c t b cs kids w) := by
  have hA := zbox_blk w
  have hB := zbox_below w
  have hsz := zbox_size w
  have hta := fun v w => hol102 v w
  have hmm := fun v w => made150' v w
  have HS := Lib.hid hS
  have HOK := Lib.hid hok
  have HMM := Lib.hid HM
  clear hS hok HM
  go_enter Tryz.func58, Tryz.ntmps58
  go_upto_region 1 with (fail)
  change Code.wp _ _ _ _ (zbox w)
  generalize zbox w = w1 at *
  obtain ⟨z, hz⟩ : ∃ x, x = w.heap.size := ⟨_, rfl⟩
  rw [← hz] at hA
  rw [← hz]
  have HZ := Lib.hid hA
  have HB := Lib.hid hB
  have HZS := Lib.hid (And.intro hz hsz)
  clear hA hB hz hsz
  go_wp2_with (first
    | (go_at_call 150; (with_reducible refine (HMM.out _ HB.out).mono ?_); intro r2 w2 hmd; obtain ⟨bl, bn, bc, cl, cn, cc, l, n, cap, rfl, hE2, hB2⟩ := hmd
       have HB2 := Lib.hid (HB.out.trans (hB2.mono HB.out.size))
       have HC := Lib.hid (ecloneG kids k i c t b cs bl bn bc cl cn cc l n cap S w2 hE2 (fun x hx => Nat.lt_of_lt_of_le (HS.out x hx) HB2.out.size) HOK.out.1 HOK.out.2.1 HOK.out.2.2.1 HOK.out.2.2.2)
       have HZ2 := Lib.hid (HZ.out.below hB2)
       have HS2 := Lib.hid hB2.size
       unfold vE at HC ⊢
       clear hE2 hB2)
    | (go_at_call 57; (with_reducible refine HC.out.mono ?_); intro r3 w3 hcl; obtain ⟨bl3, bn3, bc3, cl3, cn3, cc3, l3, n3, cap3, vs3, rfl, hF3, hR3, hT3, hB3⟩ := hcl
       have HZ9 := Lib.hid (HZ2.out.below hB3)
       have HR := Lib.hid (And.intro hF3 (And.intro hR3 (And.intro hT3 hB3)))
       have c0 := HZ9.out.cell 0 rfl; have f0 := HZ9.out.free 0 (by simp [Z11]); have c1 := HZ9.out.cell 1 rfl; have f1 := HZ9.out.free 1 (by simp [Z11]); have c2 := HZ9.out.cell 2 rfl; have f2 := HZ9.out.free 2 (by simp [Z11]); have c3 := HZ9.out.cell 3 rfl; have f3 := HZ9.out.free 3 (by simp [Z11]); have c4 := HZ9.out.cell 4 rfl; have f4 := HZ9.out.free 4 (by simp [Z11]); have c5 := HZ9.out.cell 5 rfl; have f5 := HZ9.out.free 5 (by simp [Z11]); have c6 := HZ9.out.cell 6 rfl; have f6 := HZ9.out.free 6 (by simp [Z11]); have c7 := HZ9.out.cell 7 rfl; have f7 := HZ9.out.free 7 (by simp [Z11]); have c8 := HZ9.out.cell 8 rfl; have f8 := HZ9.out.free 8 (by simp [Z11]); have c9 := HZ9.out.cell 9 rfl; have f9 := HZ9.out.free 9 (by simp [Z11]); have c10 := HZ9.out.cell 10 rfl; have f10 := HZ9.out.free 10 (by simp [Z11])
       unfold vE
       clear hF3 hR3 hT3 hB3))
  exact ce_fin Tryz.results58 rfl (by have := HZS.out; have := HS2.out; omega) HB2.out HZ9.out HR.out.1 HR.out.2.1 HR.out.2.2.1 HR.out.2.2.2
set_option maxRecDepth 100000 in
set_option maxHeartbeats 8000000 in
theorem bk103 {S : Nat → Prop} {val : Value} {k i c : Int} {t : Bs} {b : Dt} {cs : List Int} {kids : Eo} {w : World} (hS : ∀ x, S x → x < w.heap.size) (hok : okS ⟨k, i, c, t, b, cs, kids⟩) (HM : ∀ wx, Below w.heap.size w wx → Calls Tryz.prog 154 #[val] wx (MD S k i c t b cs kids wx)) :
    Calls Tryz.prog 58 #[.iface 103 val] w (CLE k i c t b cs kids w) := by
  have hA := zbox_blk w
  have hB := zbox_below w
  have hsz := zbox_size w
  have hta := fun v w => hol103 v w
  have hmm := fun v w => made154 v w
  have HS := Lib.hid hS
  have HOK := Lib.hid hok
  have HMM := Lib.hid HM
  clear hS hok HM
  go_enter Tryz.func58, Tryz.ntmps58
  go_upto_region 1 with (fail)
  change Code.wp _ _ _ _ (zbox w)
  generalize zbox w = w1 at *
  obtain ⟨z, hz⟩ : ∃ x, x = w.heap.size := ⟨_, rfl⟩
  rw [← hz] at hA
  rw [← hz]
  have HZ := Lib.hid hA
  have HB := Lib.hid hB
  have HZS := Lib.hid (And.intro hz hsz)
  clear hA hB hz hsz
  go_wp2_with (first
    | (go_at_call 154; (with_reducible refine (HMM.out _ HB.out).mono ?_); intro r2 w2 hmd; obtain ⟨bl, bn, bc, cl, cn, cc, l, n, cap, rfl, hE2, hB2⟩ := hmd
       have HB2 := Lib.hid (HB.out.trans (hB2.mono HB.out.size))
       have HC := Lib.hid (ecloneG kids k i c t b cs bl bn bc cl cn cc l n cap S w2 hE2 (fun x hx => Nat.lt_of_lt_of_le (HS.out x hx) HB2.out.size) HOK.out.1 HOK.out.2.1 HOK.out.2.2.1 HOK.out.2.2.2)
       have HZ2 := Lib.hid (HZ.out.below hB2)
       have HS2 := Lib.hid hB2.size
       unfold vE at HC ⊢
       clear hE2 hB2)
    | (go_at_call 57; (with_reducible refine HC.out.mono ?_); intro r3 w3 hcl; obtain ⟨bl3, bn3, bc3, cl3, cn3, cc3, l3, n3, cap3, vs3, rfl, hF3, hR3, hT3, hB3⟩ := hcl
       have HZ9 := Lib.hid (HZ2.out.below hB3)
       have HR := Lib.hid (And.intro hF3 (And.intro hR3 (And.intro hT3 hB3)))
       have c0 := HZ9.out.cell 0 rfl; have f0 := HZ9.out.free 0 (by simp [Z11]); have c1 := HZ9.out.cell 1 rfl; have f1 := HZ9.out.free 1 (by simp [Z11]); have c2 := HZ9.out.cell 2 rfl; have f2 := HZ9.out.free 2 (by simp [Z11]); have c3 := HZ9.out.cell 3 rfl; have f3 := HZ9.out.free 3 (by simp [Z11]); have c4 := HZ9.out.cell 4 rfl; have f4 := HZ9.out.free 4 (by simp [Z11]); have c5 := HZ9.out.cell 5 rfl; have f5 := HZ9.out.free 5 (by simp [Z11]); have c6 := HZ9.out.cell 6 rfl; have f6 := HZ9.out.free 6 (by simp [Z11]); have c7 := HZ9.out.cell 7 rfl; have f7 := HZ9.out.free 7 (by simp [Z11]); have c8 := HZ9.out.cell 8 rfl; have f8 := HZ9.out.free 8 (by simp [Z11]); have c9 := HZ9.out.cell 9 rfl; have f9 := HZ9.out.free 9 (by simp [Z11]); have c10 := HZ9.out.cell 10 rfl; have f10 := HZ9.out.free 10 (by simp [Z11])
       unfold vE
       clear hF3 hR3 hT3 hB3))
  exact ce_fin Tryz.results58 rfl (by have := HZS.out; have := HS2.out; omega) HB2.out HZ9.out HR.out.1 HR.out.2.1 HR.out.2.2.1 HR.out.2.2.2
set_option maxRecDepth 100000 in
set_option maxHeartbeats 8000000 in
theorem bk106 {S : Nat → Prop} {val : Value} {k i c : Int} {t : Bs} {b : Dt} {cs : List Int} {kids : Eo} {w : World} (hS : ∀ x, S x → x < w.heap.size) (hok : okS ⟨k, i, c, t, b, cs, kids⟩) (HM : ∀ wx, Below w.heap.size w wx → Calls Tryz.prog 164 #[val] wx (MD S k i c t b cs kids wx)) :
    Calls Tryz.prog 58 #[.iface 106 val] w (CLE k i c t b cs kids w) := by
  have hA := zbox_blk w
  have hB := zbox_below w
  have hsz := zbox_size w
  have hta := fun v w => hol106 v w
  have hmm := fun v w => made164 v w
  have HS := Lib.hid hS
  have HOK := Lib.hid hok
  have HMM := Lib.hid HM
  clear hS hok HM
  go_enter Tryz.func58, Tryz.ntmps58
  go_upto_region 1 with (fail)
  change Code.wp _ _ _ _ (zbox w)
  generalize zbox w = w1 at *
  obtain ⟨z, hz⟩ : ∃ x, x = w.heap.size := ⟨_, rfl⟩
  rw [← hz] at hA
  rw [← hz]
  have HZ := Lib.hid hA
  have HB := Lib.hid hB
  have HZS := Lib.hid (And.intro hz hsz)
  clear hA hB hz hsz
  go_wp2_with (first
    | (go_at_call 164; (with_reducible refine (HMM.out _ HB.out).mono ?_); intro r2 w2 hmd; obtain ⟨bl, bn, bc, cl, cn, cc, l, n, cap, rfl, hE2, hB2⟩ := hmd
       have HB2 := Lib.hid (HB.out.trans (hB2.mono HB.out.size))
       have HC := Lib.hid (ecloneG kids k i c t b cs bl bn bc cl cn cc l n cap S w2 hE2 (fun x hx => Nat.lt_of_lt_of_le (HS.out x hx) HB2.out.size) HOK.out.1 HOK.out.2.1 HOK.out.2.2.1 HOK.out.2.2.2)
       have HZ2 := Lib.hid (HZ.out.below hB2)
       have HS2 := Lib.hid hB2.size
       unfold vE at HC ⊢
       clear hE2 hB2)
    | (go_at_call 57; (with_reducible refine HC.out.mono ?_); intro r3 w3 hcl; obtain ⟨bl3, bn3, bc3, cl3, cn3, cc3, l3, n3, cap3, vs3, rfl, hF3, hR3, hT3, hB3⟩ := hcl
       have HZ9 := Lib.hid (HZ2.out.below hB3)
       have HR := Lib.hid (And.intro hF3 (And.intro hR3 (And.intro hT3 hB3)))
       have c0 := HZ9.out.cell 0 rfl; have f0 := HZ9.out.free 0 (by simp [Z11]); have c1 := HZ9.out.cell 1 rfl; have f1 := HZ9.out.free 1 (by simp [Z11]); have c2 := HZ9.out.cell 2 rfl; have f2 := HZ9.out.free 2 (by simp [Z11]); have c3 := HZ9.out.cell 3 rfl; have f3 := HZ9.out.free 3 (by simp [Z11]); have c4 := HZ9.out.cell 4 rfl; have f4 := HZ9.out.free 4 (by simp [Z11]); have c5 := HZ9.out.cell 5 rfl; have f5 := HZ9.out.free 5 (by simp [Z11]); have c6 := HZ9.out.cell 6 rfl; have f6 := HZ9.out.free 6 (by simp [Z11]); have c7 := HZ9.out.cell 7 rfl; have f7 := HZ9.out.free 7 (by simp [Z11]); have c8 := HZ9.out.cell 8 rfl; have f8 := HZ9.out.free 8 (by simp [Z11]); have c9 := HZ9.out.cell 9 rfl; have f9 := HZ9.out.free 9 (by simp [Z11]); have c10 := HZ9.out.cell 10 rfl; have f10 := HZ9.out.free 10 (by simp [Z11])
       unfold vE
       clear hF3 hR3 hT3 hB3))
  exact ce_fin Tryz.results58 rfl (by have := HZS.out; have := HS2.out; omega) HB2.out HZ9.out HR.out.1 HR.out.2.1 HR.out.2.2.1 HR.out.2.2.2
set_option maxRecDepth 100000 in
set_option maxHeartbeats 8000000 in
theorem bk107 {S : Nat → Prop} {val : Value} {k i c : Int} {t : Bs} {b : Dt} {cs : List Int} {kids : Eo} {w : World} (hS : ∀ x, S x → x < w.heap.size) (hok : okS ⟨k, i, c, t, b, cs, kids⟩) (HM : ∀ wx, Below w.heap.size w wx → Calls Tryz.prog 184 #[val] wx (MD S k i c t b cs kids wx)) :
    Calls Tryz.prog 58 #[.iface 107 val] w (CLE k i c t b cs kids w) := by
  have hA := zbox_blk w
  have hB := zbox_below w
  have hsz := zbox_size w
  have hta := fun v w => hol107 v w
  have hmm := fun v w => made184 v w
  have HS := Lib.hid hS
  have HOK := Lib.hid hok
  have HMM := Lib.hid HM
  clear hS hok HM
  go_enter Tryz.func58, Tryz.ntmps58
  go_upto_region 1 with (fail)
  change Code.wp _ _ _ _ (zbox w)
  generalize zbox w = w1 at *
  obtain ⟨z, hz⟩ : ∃ x, x = w.heap.size := ⟨_, rfl⟩
  rw [← hz] at hA
  rw [← hz]
  have HZ := Lib.hid hA
  have HB := Lib.hid hB
  have HZS := Lib.hid (And.intro hz hsz)
  clear hA hB hz hsz
  go_wp2_with (first
    | (go_at_call 184; (with_reducible refine (HMM.out _ HB.out).mono ?_); intro r2 w2 hmd; obtain ⟨bl, bn, bc, cl, cn, cc, l, n, cap, rfl, hE2, hB2⟩ := hmd
       have HB2 := Lib.hid (HB.out.trans (hB2.mono HB.out.size))
       have HC := Lib.hid (ecloneG kids k i c t b cs bl bn bc cl cn cc l n cap S w2 hE2 (fun x hx => Nat.lt_of_lt_of_le (HS.out x hx) HB2.out.size) HOK.out.1 HOK.out.2.1 HOK.out.2.2.1 HOK.out.2.2.2)
       have HZ2 := Lib.hid (HZ.out.below hB2)
       have HS2 := Lib.hid hB2.size
       unfold vE at HC ⊢
       clear hE2 hB2)
    | (go_at_call 57; (with_reducible refine HC.out.mono ?_); intro r3 w3 hcl; obtain ⟨bl3, bn3, bc3, cl3, cn3, cc3, l3, n3, cap3, vs3, rfl, hF3, hR3, hT3, hB3⟩ := hcl
       have HZ9 := Lib.hid (HZ2.out.below hB3)
       have HR := Lib.hid (And.intro hF3 (And.intro hR3 (And.intro hT3 hB3)))
       have c0 := HZ9.out.cell 0 rfl; have f0 := HZ9.out.free 0 (by simp [Z11]); have c1 := HZ9.out.cell 1 rfl; have f1 := HZ9.out.free 1 (by simp [Z11]); have c2 := HZ9.out.cell 2 rfl; have f2 := HZ9.out.free 2 (by simp [Z11]); have c3 := HZ9.out.cell 3 rfl; have f3 := HZ9.out.free 3 (by simp [Z11]); have c4 := HZ9.out.cell 4 rfl; have f4 := HZ9.out.free 4 (by simp [Z11]); have c5 := HZ9.out.cell 5 rfl; have f5 := HZ9.out.free 5 (by simp [Z11]); have c6 := HZ9.out.cell 6 rfl; have f6 := HZ9.out.free 6 (by simp [Z11]); have c7 := HZ9.out.cell 7 rfl; have f7 := HZ9.out.free 7 (by simp [Z11]); have c8 := HZ9.out.cell 8 rfl; have f8 := HZ9.out.free 8 (by simp [Z11]); have c9 := HZ9.out.cell 9 rfl; have f9 := HZ9.out.free 9 (by simp [Z11]); have c10 := HZ9.out.cell 10 rfl; have f10 := HZ9.out.free 10 (by simp [Z11])
       unfold vE
       clear hF3 hR3 hT3 hB3))
  exact ce_fin Tryz.results58 rfl (by have := HZS.out; have := HS2.out; omega) HB2.out HZ9.out HR.out.1 HR.out.2.1 HR.out.2.2.1 HR.out.2.2.2
set_option maxRecDepth 100000 in
set_option maxHeartbeats 8000000 in
theorem bk108 {S : Nat → Prop} {val : Value} {k i c : Int} {t : Bs} {b : Dt} {cs : List Int} {kids : Eo} {w : World} (hS : ∀ x, S x → x < w.heap.size) (hok : okS ⟨k, i, c, t, b, cs, kids⟩) (HM : ∀ wx, Below w.heap.size w wx → Calls Tryz.prog 188 #[val] wx (MD S k i c t b cs kids wx)) :
    Calls Tryz.prog 58 #[.iface 108 val] w (CLE k i c t b cs kids w) := by
  have hA := zbox_blk w
  have hB := zbox_below w
  have hsz := zbox_size w
  have hta := fun v w => hol108 v w
  have hmm := fun v w => made188 v w
  have HS := Lib.hid hS
  have HOK := Lib.hid hok
  have HMM := Lib.hid HM
  clear hS hok HM
  go_enter Tryz.func58, Tryz.ntmps58
  go_upto_region 1 with (fail)
  change Code.wp _ _ _ _ (zbox w)
  generalize zbox w = w1 at *
  obtain ⟨z, hz⟩ : ∃ x, x = w.heap.size := ⟨_, rfl⟩
  rw [← hz] at hA
  rw [← hz]
  have HZ := Lib.hid hA
  have HB := Lib.hid hB
  have HZS := Lib.hid (And.intro hz hsz)
  clear hA hB hz hsz
  go_wp2_with (first
    | (go_at_call 188; (with_reducible refine (HMM.out _ HB.out).mono ?_); intro r2 w2 hmd; obtain ⟨bl, bn, bc, cl, cn, cc, l, n, cap, rfl, hE2, hB2⟩ := hmd
       have HB2 := Lib.hid (HB.out.trans (hB2.mono HB.out.size))
       have HC := Lib.hid (ecloneG kids k i c t b cs bl bn bc cl cn cc l n cap S w2 hE2 (fun x hx => Nat.lt_of_lt_of_le (HS.out x hx) HB2.out.size) HOK.out.1 HOK.out.2.1 HOK.out.2.2.1 HOK.out.2.2.2)
       have HZ2 := Lib.hid (HZ.out.below hB2)
       have HS2 := Lib.hid hB2.size
       unfold vE at HC ⊢
       clear hE2 hB2)
    | (go_at_call 57; (with_reducible refine HC.out.mono ?_); intro r3 w3 hcl; obtain ⟨bl3, bn3, bc3, cl3, cn3, cc3, l3, n3, cap3, vs3, rfl, hF3, hR3, hT3, hB3⟩ := hcl
       have HZ9 := Lib.hid (HZ2.out.below hB3)
       have HR := Lib.hid (And.intro hF3 (And.intro hR3 (And.intro hT3 hB3)))
       have c0 := HZ9.out.cell 0 rfl; have f0 := HZ9.out.free 0 (by simp [Z11]); have c1 := HZ9.out.cell 1 rfl; have f1 := HZ9.out.free 1 (by simp [Z11]); have c2 := HZ9.out.cell 2 rfl; have f2 := HZ9.out.free 2 (by simp [Z11]); have c3 := HZ9.out.cell 3 rfl; have f3 := HZ9.out.free 3 (by simp [Z11]); have c4 := HZ9.out.cell 4 rfl; have f4 := HZ9.out.free 4 (by simp [Z11]); have c5 := HZ9.out.cell 5 rfl; have f5 := HZ9.out.free 5 (by simp [Z11]); have c6 := HZ9.out.cell 6 rfl; have f6 := HZ9.out.free 6 (by simp [Z11]); have c7 := HZ9.out.cell 7 rfl; have f7 := HZ9.out.free 7 (by simp [Z11]); have c8 := HZ9.out.cell 8 rfl; have f8 := HZ9.out.free 8 (by simp [Z11]); have c9 := HZ9.out.cell 9 rfl; have f9 := HZ9.out.free 9 (by simp [Z11]); have c10 := HZ9.out.cell 10 rfl; have f10 := HZ9.out.free 10 (by simp [Z11])
       unfold vE
       clear hF3 hR3 hT3 hB3))
  exact ce_fin Tryz.results58 rfl (by have := HZS.out; have := HS2.out; omega) HB2.out HZ9.out HR.out.1 HR.out.2.1 HR.out.2.2.1 HR.out.2.2.2
set_option maxRecDepth 100000 in
set_option maxHeartbeats 8000000 in
theorem bk109 {S : Nat → Prop} {val : Value} {k i c : Int} {t : Bs} {b : Dt} {cs : List Int} {kids : Eo} {w : World} (hS : ∀ x, S x → x < w.heap.size) (hok : okS ⟨k, i, c, t, b, cs, kids⟩) (HM : ∀ wx, Below w.heap.size w wx → Calls Tryz.prog 193 #[val] wx (MD S k i c t b cs kids wx)) :
    Calls Tryz.prog 58 #[.iface 109 val] w (CLE k i c t b cs kids w) := by
  have hA := zbox_blk w
  have hB := zbox_below w
  have hsz := zbox_size w
  have hta := fun v w => hol109 v w
  have hmm := fun v w => made193 v w
  have HS := Lib.hid hS
  have HOK := Lib.hid hok
  have HMM := Lib.hid HM
  clear hS hok HM
  go_enter Tryz.func58, Tryz.ntmps58
  go_upto_region 1 with (fail)
  change Code.wp _ _ _ _ (zbox w)
  generalize zbox w = w1 at *
  obtain ⟨z, hz⟩ : ∃ x, x = w.heap.size := ⟨_, rfl⟩
  rw [← hz] at hA
  rw [← hz]
  have HZ := Lib.hid hA
  have HB := Lib.hid hB
  have HZS := Lib.hid (And.intro hz hsz)
  clear hA hB hz hsz
  go_wp2_with (first
    | (go_at_call 193; (with_reducible refine (HMM.out _ HB.out).mono ?_); intro r2 w2 hmd; obtain ⟨bl, bn, bc, cl, cn, cc, l, n, cap, rfl, hE2, hB2⟩ := hmd
       have HB2 := Lib.hid (HB.out.trans (hB2.mono HB.out.size))
       have HC := Lib.hid (ecloneG kids k i c t b cs bl bn bc cl cn cc l n cap S w2 hE2 (fun x hx => Nat.lt_of_lt_of_le (HS.out x hx) HB2.out.size) HOK.out.1 HOK.out.2.1 HOK.out.2.2.1 HOK.out.2.2.2)
       have HZ2 := Lib.hid (HZ.out.below hB2)
       have HS2 := Lib.hid hB2.size
       unfold vE at HC ⊢
       clear hE2 hB2)
    | (go_at_call 57; (with_reducible refine HC.out.mono ?_); intro r3 w3 hcl; obtain ⟨bl3, bn3, bc3, cl3, cn3, cc3, l3, n3, cap3, vs3, rfl, hF3, hR3, hT3, hB3⟩ := hcl
       have HZ9 := Lib.hid (HZ2.out.below hB3)
       have HR := Lib.hid (And.intro hF3 (And.intro hR3 (And.intro hT3 hB3)))
       have c0 := HZ9.out.cell 0 rfl; have f0 := HZ9.out.free 0 (by simp [Z11]); have c1 := HZ9.out.cell 1 rfl; have f1 := HZ9.out.free 1 (by simp [Z11]); have c2 := HZ9.out.cell 2 rfl; have f2 := HZ9.out.free 2 (by simp [Z11]); have c3 := HZ9.out.cell 3 rfl; have f3 := HZ9.out.free 3 (by simp [Z11]); have c4 := HZ9.out.cell 4 rfl; have f4 := HZ9.out.free 4 (by simp [Z11]); have c5 := HZ9.out.cell 5 rfl; have f5 := HZ9.out.free 5 (by simp [Z11]); have c6 := HZ9.out.cell 6 rfl; have f6 := HZ9.out.free 6 (by simp [Z11]); have c7 := HZ9.out.cell 7 rfl; have f7 := HZ9.out.free 7 (by simp [Z11]); have c8 := HZ9.out.cell 8 rfl; have f8 := HZ9.out.free 8 (by simp [Z11]); have c9 := HZ9.out.cell 9 rfl; have f9 := HZ9.out.free 9 (by simp [Z11]); have c10 := HZ9.out.cell 10 rfl; have f10 := HZ9.out.free 10 (by simp [Z11])
       unfold vE
       clear hF3 hR3 hT3 hB3))
  exact ce_fin Tryz.results58 rfl (by have := HZS.out; have := HS2.out; omega) HB2.out HZ9.out HR.out.1 HR.out.2.1 HR.out.2.2.1 HR.out.2.2.2
set_option maxRecDepth 100000 in
set_option maxHeartbeats 8000000 in
theorem bk110 {S : Nat → Prop} {val : Value} {k i c : Int} {t : Bs} {b : Dt} {cs : List Int} {kids : Eo} {w : World} (hS : ∀ x, S x → x < w.heap.size) (hok : okS ⟨k, i, c, t, b, cs, kids⟩) (HM : ∀ wx, Below w.heap.size w wx → Calls Tryz.prog 197 #[val] wx (MD S k i c t b cs kids wx)) :
    Calls Tryz.prog 58 #[.iface 110 val] w (CLE k i c t b cs kids w) := by
  have hA := zbox_blk w
  have hB := zbox_below w
  have hsz := zbox_size w
  have hta := fun v w => hol110 v w
  have hmm := fun v w => made197 v w
  have HS := Lib.hid hS
  have HOK := Lib.hid hok
  have HMM := Lib.hid HM
  clear hS hok HM
  go_enter Tryz.func58, Tryz.ntmps58
  go_upto_region 1 with (fail)
  change Code.wp _ _ _ _ (zbox w)
  generalize zbox w = w1 at *
  obtain ⟨z, hz⟩ : ∃ x, x = w.heap.size := ⟨_, rfl⟩
  rw [← hz] at hA
  rw [← hz]
  have HZ := Lib.hid hA
  have HB := Lib.hid hB
  have HZS := Lib.hid (And.intro hz hsz)
  clear hA hB hz hsz
  go_wp2_with (first
    | (go_at_call 197; (with_reducible refine (HMM.out _ HB.out).mono ?_); intro r2 w2 hmd; obtain ⟨bl, bn, bc, cl, cn, cc, l, n, cap, rfl, hE2, hB2⟩ := hmd
       have HB2 := Lib.hid (HB.out.trans (hB2.mono HB.out.size))
       have HC := Lib.hid (ecloneG kids k i c t b cs bl bn bc cl cn cc l n cap S w2 hE2 (fun x hx => Nat.lt_of_lt_of_le (HS.out x hx) HB2.out.size) HOK.out.1 HOK.out.2.1 HOK.out.2.2.1 HOK.out.2.2.2)
       have HZ2 := Lib.hid (HZ.out.below hB2)
       have HS2 := Lib.hid hB2.size
       unfold vE at HC ⊢
       clear hE2 hB2)
    | (go_at_call 57; (with_reducible refine HC.out.mono ?_); intro r3 w3 hcl; obtain ⟨bl3, bn3, bc3, cl3, cn3, cc3, l3, n3, cap3, vs3, rfl, hF3, hR3, hT3, hB3⟩ := hcl
       have HZ9 := Lib.hid (HZ2.out.below hB3)
       have HR := Lib.hid (And.intro hF3 (And.intro hR3 (And.intro hT3 hB3)))
       have c0 := HZ9.out.cell 0 rfl; have f0 := HZ9.out.free 0 (by simp [Z11]); have c1 := HZ9.out.cell 1 rfl; have f1 := HZ9.out.free 1 (by simp [Z11]); have c2 := HZ9.out.cell 2 rfl; have f2 := HZ9.out.free 2 (by simp [Z11]); have c3 := HZ9.out.cell 3 rfl; have f3 := HZ9.out.free 3 (by simp [Z11]); have c4 := HZ9.out.cell 4 rfl; have f4 := HZ9.out.free 4 (by simp [Z11]); have c5 := HZ9.out.cell 5 rfl; have f5 := HZ9.out.free 5 (by simp [Z11]); have c6 := HZ9.out.cell 6 rfl; have f6 := HZ9.out.free 6 (by simp [Z11]); have c7 := HZ9.out.cell 7 rfl; have f7 := HZ9.out.free 7 (by simp [Z11]); have c8 := HZ9.out.cell 8 rfl; have f8 := HZ9.out.free 8 (by simp [Z11]); have c9 := HZ9.out.cell 9 rfl; have f9 := HZ9.out.free 9 (by simp [Z11]); have c10 := HZ9.out.cell 10 rfl; have f10 := HZ9.out.free 10 (by simp [Z11])
       unfold vE
       clear hF3 hR3 hT3 hB3))
  exact ce_fin Tryz.results58 rfl (by have := HZS.out; have := HS2.out; omega) HB2.out HZ9.out HR.out.1 HR.out.2.1 HR.out.2.2.1 HR.out.2.2.2
set_option maxRecDepth 100000 in
set_option maxHeartbeats 8000000 in
theorem bk0 (w : World) : Calls Tryz.prog 58 #[.nilIface] w (CLE 0 0 0 [] Dt.zero [] .nil w) := by
  have hA := zbox_blk w
  have hB := zbox_below w
  have hsz := zbox_size w
  have hta := fun w => hol0 w
  go_enter Tryz.func58, Tryz.ntmps58
  go_upto_region 1 with (fail)
  change Code.wp _ _ _ _ (zbox w)
  generalize zbox w = w1 at *
  obtain ⟨z, hz⟩ : ∃ x, x = w.heap.size := ⟨_, rfl⟩
  rw [← hz] at hA
  rw [← hz]
  have HZ := Lib.hid hA
  have HB := Lib.hid hB
  have HZS := Lib.hid (And.intro hz hsz)
  have c0 := HZ.out.cell 0 rfl; have f0 := HZ.out.free 0 (by simp [Z11]); have c1 := HZ.out.cell 1 rfl; have f1 := HZ.out.free 1 (by simp [Z11]); have c2 := HZ.out.cell 2 rfl; have f2 := HZ.out.free 2 (by simp [Z11]); have c3 := HZ.out.cell 3 rfl; have f3 := HZ.out.free 3 (by simp [Z11]); have c4 := HZ.out.cell 4 rfl; have f4 := HZ.out.free 4 (by simp [Z11]); have c5 := HZ.out.cell 5 rfl; have f5 := HZ.out.free 5 (by simp [Z11]); have c6 := HZ.out.cell 6 rfl; have f6 := HZ.out.free 6 (by simp [Z11]); have c7 := HZ.out.cell 7 rfl; have f7 := HZ.out.free 7 (by simp [Z11]); have c8 := HZ.out.cell 8 rfl; have f8 := HZ.out.free 8 (by simp [Z11]); have c9 := HZ.out.cell 9 rfl; have f9 := HZ.out.free 9 (by simp [Z11]); have c10 := HZ.out.cell 10 rfl; have f10 := HZ.out.free 10 (by simp [Z11])
  clear hA hB hz hsz
  go_wp2_with fail
  exact ce_fin (kids := .nil) (k := 0) (i := 0) (c := 0) (t := []) (b := Dt.zero) (cs := []) (bl := none) (bn := 0) (bc := 0) (cl := none) (cn := 0) (cc := 0) (l := none) (n := 0) (cap := 0) (vs := []) Tryz.results58 rfl (by have := HZS.out; omega) HB.out HZ.out (FoAt.nil _ _) (Row.nil _ _ _) ⟨Row.nil _ _ _, rfl⟩ (Below.refl _ _)
theorem back58 {S N : Nat → Prop} {e : Et} {v : Value} {w : World} (hv : EVAt S N w e v) (hr : rightE e = true) (hS : ∀ x, S x → x < w.heap.size) (hok : okS e) : Calls Tryz.prog 58 #[v] w (CLE e.k e.i e.c e.t e.b e.cs e.l w) := by
  obtain ⟨k, i, c, t, b, cs, kids⟩ := e
  obtain ⟨bl, bn, bc, cl, cn, cc, l, n, cap, q, p, rfl, hE, h5, hP⟩ := hv
  have hr' := hr
  unfold rightE rright1 at hr
  dsimp only at hr hE h5 hP
  rw [Bool.and_eq_true] at hr
  have hEx : ∀ wx, Below w.heap.size w wx → ErAt S wx ⟨k, i, c, t, b, cs, kids⟩ bl bn bc cl cn cc l n cap := fun wx hx => hE.same (fun x _ hl => hx.block x hl) (fun x hx _ => hx)
  rcases kinds_cases k with rfl | rfl | rfl | rfl | rfl | rfl | rfl | rfl | rfl | rfl | ⟨z1, z2, z3, z4, z5, z6, z7, z8, z9, z10⟩
  · obtain ⟨rfl, h4, h6⟩ := fit_plain hr.1 (.inl rfl)
    obtain rfl := fit_body hr.1 (by decide)
    obtain rfl := List.length_eq_zero_iff.1 h4
    obtain rfl := len0 h6
    exact bk101 hS hok (fun wx _ => (mk147 c t wx).mono fun r w' h => ⟨none, 0, 0, none, 0, 0, none, 0, 0, h.1, .none, h.2⟩)
  · exact bk89 hS hok (fun wx hx => (mk144 ((hP (.inl rfl)).1.below hx)).mono fun r w' h => ⟨bl, bn, bc, cl, cn, cc, l, n, cap, h.1, hEx w' (bel_tr hx h.2), h.2⟩)
  · exact bk102 hS hok (fun wx hx => (mk150 ((hP (.inr (.inl rfl))).1.below hx)).mono fun r w' h => ⟨bl, bn, bc, cl, cn, cc, l, n, cap, h.1, hEx w' (bel_tr hx h.2), h.2⟩)
  · exact bk103 hS hok (fun wx hx => (mk154 ((hP (.inr (.inr (.inl rfl)))).1.below hx)).mono fun r w' h => ⟨bl, bn, bc, cl, cn, cc, l, n, cap, h.1, hEx w' (bel_tr hx h.2), h.2⟩)
  · exact bk106 hS hok (fun wx hx => (mk164 wx ((h5 rfl).1.below hx)).mono fun r w' h => ⟨bl, bn, bc, cl, cn, cc, l, n, cap, h.1, hEx w' (bel_tr hx h.2), h.2⟩)
  · obtain ⟨rfl, rfl, rfl, h6⟩ := fit_six hr.1
    obtain rfl := fit_body hr.1 (by decide)
    obtain rfl := len0 h6
    exact bk107 hS hok (fun wx hx => (mk184 cl cn cc wx).mono fun r w' h => ⟨none, 0, 0, cl, cn, cc, none, 0, 0, h.1, ⟨FoAt.nil _ _, (hEx w' (bel_tr hx h.2)).2.1, EoAt.nil _ _⟩, h.2⟩)
  · obtain ⟨rfl, rfl, rfl, h4, h6⟩ := fit_none hr.1 (.inr rfl)
    obtain rfl := fit_body hr.1 (by decide)
    obtain rfl := List.length_eq_zero_iff.1 h4
    obtain rfl := len0 h6
    exact bk89 hS hok (fun wx _ => (mk144n wx).mono fun r w' h => ⟨none, 0, 0, none, 0, 0, none, 0, 0, h.1, .none, h.2⟩)
  · exact bk108 hS hok (fun wx hx => (mk188 ((hP (.inr (.inr (.inr (.inl rfl))))).1.below hx)).mono fun r w' h => ⟨bl, bn, bc, cl, cn, cc, l, n, cap, h.1, hEx w' (bel_tr hx h.2), h.2⟩)
  · exact bk109 hS hok (fun wx hx => (mk193 ((hP (.inr (.inr (.inr (.inr rfl))))).1.below hx)).mono fun r w' h => ⟨bl, bn, bc, cl, cn, cc, l, n, cap, h.1, hEx w' (bel_tr hx h.2), h.2⟩)
  · obtain ⟨rfl, h4, h6⟩ := fit_plain hr.1 (.inr rfl)
    obtain rfl := fit_body hr.1 (by decide)
    obtain rfl := List.length_eq_zero_iff.1 h4
    obtain rfl := len0 h6
    exact bk110 hS hok (fun wx _ => (mk197 c t wx).mono fun r w' h => ⟨none, 0, 0, none, 0, 0, none, 0, 0, h.1, .none, h.2⟩)
  · have hk := (fit_num hr.1).1
    obtain rfl : k = 0 := by omega
    obtain h0 := right_zero hr' rfl
    cases h0
    exact bk0 w
set_option maxRecDepth 100000 in
theorem un59_89 (v : Value) (w : World) : Calls Tryz.prog 59 #[.iface 89 v] w (fun r w' => r = .returned .nilIface ∧ w' = w) := by
  have hta := fun v w => unt89 v w
  go_enter Tryz.func59, Tryz.ntmps59
  go_wp2_with fail
  go_ret
  exact ⟨rfl, rfl⟩
set_option maxRecDepth 100000 in
theorem un59_101 (v : Value) (w : World) : Calls Tryz.prog 59 #[.iface 101 v] w (fun r w' => r = .returned .nilIface ∧ w' = w) := by
  have hta := fun v w => unt101 v w
  go_enter Tryz.func59, Tryz.ntmps59
  go_wp2_with fail
  go_ret
  exact ⟨rfl, rfl⟩
set_option maxRecDepth 100000 in
theorem un59_103 (v : Value) (w : World) : Calls Tryz.prog 59 #[.iface 103 v] w (fun r w' => r = .returned .nilIface ∧ w' = w) := by
  have hta := fun v w => unt103 v w
  go_enter Tryz.func59, Tryz.ntmps59
  go_wp2_with fail
  go_ret
  exact ⟨rfl, rfl⟩
set_option maxRecDepth 100000 in
theorem un59_106 (v : Value) (w : World) : Calls Tryz.prog 59 #[.iface 106 v] w (fun r w' => r = .returned .nilIface ∧ w' = w) := by
  have hta := fun v w => unt106 v w
  go_enter Tryz.func59, Tryz.ntmps59
  go_wp2_with fail
  go_ret
  exact ⟨rfl, rfl⟩
set_option maxRecDepth 100000 in
theorem un59_107 (v : Value) (w : World) : Calls Tryz.prog 59 #[.iface 107 v] w (fun r w' => r = .returned .nilIface ∧ w' = w) := by
  have hta := fun v w => unt107 v w
  go_enter Tryz.func59, Tryz.ntmps59
  go_wp2_with fail
  go_ret
  exact ⟨rfl, rfl⟩
set_option maxRecDepth 100000 in
theorem un59_109 (v : Value) (w : World) : Calls Tryz.prog 59 #[.iface 109 v] w (fun r w' => r = .returned .nilIface ∧ w' = w) := by
  have hta := fun v w => unt109 v w
  go_enter Tryz.func59, Tryz.ntmps59
  go_wp2_with fail
  go_ret
  exact ⟨rfl, rfl⟩
set_option maxRecDepth 100000 in
theorem un59_110 (v : Value) (w : World) : Calls Tryz.prog 59 #[.iface 110 v] w (fun r w' => r = .returned .nilIface ∧ w' = w) := by
  have hta := fun v w => unt110 v w
  go_enter Tryz.func59, Tryz.ntmps59
  go_wp2_with fail
  go_ret
  exact ⟨rfl, rfl⟩
set_option maxRecDepth 100000 in
theorem un59_0 (w : World) : Calls Tryz.prog 59 #[.nilIface] w (fun r w' => r = .returned .nilIface ∧ w' = w) := by
  have hta := fun w => unt0 w
  go_enter Tryz.func59, Tryz.ntmps59
  go_wp2_with fail
  go_ret
  exact ⟨rfl, rfl⟩
set_option maxRecDepth 100000 in
set_option maxHeartbeats 4000000 in
theorem un59_102 {val : Value} {S N : Nat → Prop} {e1 : Et} {w : World} (HM : Calls Tryz.prog 149 #[val] w (VAL S N e1 w)) : Calls Tryz.prog 59 #[.iface 102 val] w (VAL S N e1 w) := by
  have hta := fun v w => unt102 v w
  have hmu := fun v w => m102u v w
  have HMM := Lib.hid HM
  clear HM
  go_enter Tryz.func59, Tryz.ntmps59
  go_wp2_with (go_at_call 149; (with_reducible refine HMM.out.mono ?_); intro r2 w2 hv; obtain ⟨v, rfl, hv, hB⟩ := hv; have HV := Lib.hid hv; have HB := Lib.hid hB; clear hv hB)
  go_ret
  exact ⟨v, rfl, HV.out, HB.out⟩
set_option maxRecDepth 100000 in
set_option maxHeartbeats 4000000 in
theorem un59_108 {val : Value} {S N : Nat → Prop} {e1 : Et} {w : World} (HM : Calls Tryz.prog 187 #[val] w (VAL S N e1 w)) : Calls Tryz.prog 59 #[.iface 108 val] w (VAL S N e1 w) := by
  have hta := fun v w => unt108 v w
  have hmu := fun v w => m108u v w
  have HMM := Lib.hid HM
  clear HM
  go_enter Tryz.func59, Tryz.ntmps59
  go_wp2_with (go_at_call 187; (with_reducible refine HMM.out.mono ?_); intro r2 w2 hv; obtain ⟨v, rfl, hv, hB⟩ := hv; have HV := Lib.hid hv; have HB := Lib.hid hB; clear hv hB)
  go_ret
  exact ⟨v, rfl, HV.out, HB.out⟩
theorem VAL.nil {S N : Nat → Prop} {w : World} {r : Ending} {w' : World} (h : r = .returned .nilIface ∧ w' = w) : VAL S N Et.zero w r w' := by
  obtain ⟨rfl, rfl⟩ := h
  exact ⟨_, rfl, nilEV, Below.refl _ _⟩
theorem unw59 {S N : Nat → Prop} {e : Et} {v : Value} {w : World} (hv : EVAt S N w e v) (hr : rightE e = true) (hN : ∀ x, N x → x < w.heap.size) : Calls Tryz.prog 59 #[v] w (VAL S N (unwE e) w) := by
  obtain ⟨k, i, c, t, b, cs, kids⟩ := e
  obtain ⟨bl, bn, bc, cl, cn, cc, l, n, cap, q, p, rfl, hE, h5, hP⟩ := hv
  unfold rightE rright1 at hr
  dsimp only at hr hE h5 hP
  rw [Bool.and_eq_true] at hr
  have hn := (fit_num hr.1).2.1
  have hl := hE.2.2.len
  rcases kinds_cases k with rfl | rfl | rfl | rfl | rfl | rfl | rfl | rfl | rfl | rfl | ⟨z1, z2, z3, z4, z5, z6, z7, z8, z9, z10⟩
  · exact (un59_101 _ w).mono fun r w' h => VAL.nil h
  · exact (un59_89 _ w).mono fun r w' h => VAL.nil h
  · obtain ⟨k2, i2, c2, t2, b2, cs2, ks, rfl⟩ := len1 (show kids.len = 1 by simp [fldM] at hn; omega)
    exact un59_102 (unw149 (hP (.inr (.inl rfl))).1 hE.2.2 hN)
  · exact (un59_103 _ w).mono fun r w' h => VAL.nil h
  · exact (un59_106 _ w).mono fun r w' h => VAL.nil h
  · exact (un59_107 _ w).mono fun r w' h => VAL.nil h
  · exact (un59_89 _ w).mono fun r w' h => VAL.nil h
  · cases kids with
    | nil =>
      have h0 : 0 = n := hl
      subst h0
      exact un59_108 ((unw187n (hP (.inr (.inr (.inr (.inl rfl))))).1).mono fun r w' h => VAL.nil h)
    | cons k2 i2 c2 t2 b2 cs2 ks r2 =>
      obtain ⟨_, _, _, _, _, _, _, h1⟩ := len1 (show (Eo.cons k2 i2 c2 t2 b2 cs2 ks r2).len = 1 by simp [fldM] at hn; simp [Eo.len] at hn ⊢; omega)
      cases h1
      exact un59_108 (unw187 (hP (.inr (.inr (.inr (.inl rfl))))).1 hE.2.2 hN)
  · exact (un59_109 _ w).mono fun r w' h => VAL.nil h
  · exact (un59_110 _ w).mono fun r w' h => VAL.nil h
  · have hk := (fit_num hr.1).1
    obtain rfl : k = 0 := by omega
    exact (un59_0 w).mono fun r w' h => VAL.nil h
set_option maxRecDepth 100000 in
set_option maxHeartbeats 8000000 in
/-- Unwrap of an error -/
theorem unw24 {S : Nat → Prop} {e : Et} {bl : Option Addr} {bn bc : Nat} {cl : Option Addr} {cn cc : Nat} {l : Option Addr} {n cap : Nat} {w : World} (hE : ErAt S w e bl bn bc cl cn cc l n cap) (hS : ∀ x, S x → x < w.heap.size) (hr : rightE e = true) (hok : okS e) :
    Calls Tryz.prog 24 #[vE e.k e.i e.c e.t e.b bl bn bc cl cn cc l n cap] w (CLE (unwE e).k (unwE e).i (unwE e).c (unwE e).t (unwE e).b (unwE e).cs (unwE e).l w) := by
  have hr1 := unwE_right hr
  have hok1 := unwE_okS hok
  have hA := ebox_blk w e.k e.i e.c e.t e.b bl bn bc cl cn cc l n cap
  have hB0 := ebox_below w e.k e.i e.c e.t e.b bl bn bc cl cn cc l n cap
  have hs0 := ebox_size w e.k e.i e.c e.t e.b bl bn bc cl cn cc l n cap
  have HE := Lib.hid (fun (wx : World) (hx : Below w.heap.size w wx) => valueEV (N := fun _ => False) (hE.same (w' := wx) (fun x _ hl => hx.block x hl) (fun x hx2 _ => hx2)) (fun x h => h.elim))
  have HU := Lib.hid (fun (wx : World) (v : Value) (hv : EVAt S (fun _ => False) wx e v) => unw59 hv hr (fun x h => h.elim))
  have HBK := Lib.hid (fun (wx : World) (v : Value) (hx : Below w.heap.size w wx) (hv : EVAt S (fun _ => False) wx (unwE e) v) => back58 hv hr1 (fun x hx' => Nat.lt_of_lt_of_le (hS x hx') hx.size) hok1)
  unfold vE at HE ⊢
  generalize unwE e = u at *
  clear hE hS hr hok hr1 hok1
  go_enter Tryz.func24, Tryz.ntmps24
  go_upto_region 1 with (fail)
  change Code.wp _ _ _ _ (zbox (ebox w e.k e.i e.c e.t e.b bl bn bc cl cn cc l n cap))
  generalize ebox w e.k e.i e.c e.t e.b bl bn bc cl cn cc l n cap = w0 at *
  have hA1 := hA.below (zbox_below w0)
  have hZ := zbox_blk w0
  have hB := hB0.trans ((zbox_below w0).mono hB0.size)
  have hs1 := zbox_size w0
  generalize zbox w0 = w1 at *
  rw [hs0] at hZ
  obtain ⟨z, hz⟩ : ∃ x, x = w.heap.size + 1 := ⟨_, rfl⟩
  obtain ⟨p, hp⟩ : ∃ x, x = w.heap.size := ⟨_, rfl⟩
  rw [← hp] at hA1
  rw [← hz] at hZ
  rw [← hz, ← hp]
  have x0 := hA1.cell 0 rfl
  have x1 := hA1.cell 1 rfl
  have x2 := hA1.cell 2 rfl
  have x3 := hA1.cell 3 rfl
  have x4 := hA1.cell 4 rfl
  have x5 := hA1.cell 5 rfl
  have x6 := hA1.cell 6 rfl
  have x7 := hA1.cell 7 rfl
  have x8 := hA1.cell 8 rfl
  have x9 := hA1.cell 9 rfl
  have x10 := hA1.cell 10 rfl
  have HZ := Lib.hid hZ
  have HB := Lib.hid hB
  have HZS := Lib.hid (show w.heap.size ≤ z ∧ z < w1.heap.size from by omega)
  clear hA hB0 hs0 hA1 hZ hB hs1 hz hp
  go_wp2_with (first
    | (go_at_call 50; (with_reducible refine (HE.out _ HB.out).mono ?_); intro r2 w2 h2; obtain ⟨v2, rfl, hv2, hB2⟩ := h2
       have HV2 := Lib.hid hv2; have HB2 := Lib.hid (HB.out.trans (hB2.mono HB.out.size)); have HZ2 := Lib.hid (HZ.out.below hB2); have HS2 := Lib.hid hB2.size; clear hv2 hB2)
    | (go_at_call 59; (with_reducible refine (HU.out _ _ HV2.out).mono ?_); intro r3 w3 h3; obtain ⟨v3, rfl, hv3, hB3⟩ := h3
       have HV3 := Lib.hid hv3; have HB3 := Lib.hid (HB2.out.trans (hB3.mono HB2.out.size)); have HZ3 := Lib.hid (HZ2.out.below hB3); have HS3 := Lib.hid hB3.size; clear hv3 hB3)
    | (go_at_call 58; (with_reducible refine (HBK.out _ _ HB3.out HV3.out).mono ?_); intro r4 w4 h4; obtain ⟨bl3, bn3, bc3, cl3, cn3, cc3, l3, n3, cap3, vs3, rfl, hF3, hR3, hT3, hB4⟩ := h4
       have HZ9 := Lib.hid (HZ3.out.below hB4)
       have HR := Lib.hid (And.intro hF3 (And.intro hR3 (And.intro hT3 hB4)))
       have c0 := HZ9.out.cell 0 rfl; have f0 := HZ9.out.free 0 (by simp [Z11]); have c1 := HZ9.out.cell 1 rfl; have f1 := HZ9.out.free 1 (by simp [Z11]); have c2 := HZ9.out.cell 2 rfl; have f2 := HZ9.out.free 2 (by simp [Z11]); have c3 := HZ9.out.cell 3 rfl; have f3 := HZ9.out.free 3 (by simp [Z11]); have c4 := HZ9.out.cell 4 rfl; have f4 := HZ9.out.free 4 (by simp [Z11]); have c5 := HZ9.out.cell 5 rfl; have f5 := HZ9.out.free 5 (by simp [Z11]); have c6 := HZ9.out.cell 6 rfl; have f6 := HZ9.out.free 6 (by simp [Z11]); have c7 := HZ9.out.cell 7 rfl; have f7 := HZ9.out.free 7 (by simp [Z11]); have c8 := HZ9.out.cell 8 rfl; have f8 := HZ9.out.free 8 (by simp [Z11]); have c9 := HZ9.out.cell 9 rfl; have f9 := HZ9.out.free 9 (by simp [Z11]); have c10 := HZ9.out.cell 10 rfl; have f10 := HZ9.out.free 10 (by simp [Z11])
       unfold vE
       clear hF3 hR3 hT3 hB4))
  exact ce_fin Tryz.results24 rfl (by have := HZS.out; have := HS2.out; have := HS3.out; omega) HB3.out HZ9.out HR.out.1 HR.out.2.1 HR.out.2.2.1 HR.out.2.2.2
end Go.Proofs.YtbldidiibkcelaaGreatDoor

