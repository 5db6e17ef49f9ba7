/-
  errors.As of an error value (walk). Not a statement of the seat.
-/
import Derived.Test.YtbldidiibkcelaaGreatDoorTEAs3
namespace Go.Proofs.YtbldidiibkcelaaGreatDoor
open Go.RowKit Go.Extern.Stop Go.Stop Go.Extern

structure AT2 (T PT : Nat) (kd : Int) : Prop where
  pu : ∀ (t : Addr) (w : World), (ReflectliteValue.unpack (.iface PT (.pointer (some t)))).run Tryz.prog w = .ok (rva PT ⟨w.heap.size, 0, none⟩ 150) (w.alloc (.cells #[.pointer (some t)] PT))
  pt : ∀ (a : Addr) (w : World), (ReflectliteValue.methodAny (ReflectliteValue.valueError "reflectlite.Value.Type" 0) (fun t _ _ _ => ReflectliteType.toType t) #[rva PT a 150]).run Tryz.prog w = .ok (rty PT) w
  pk : ∀ w : World, ((ReflectliteType.abiMethod fun t => (fun a : Nat => Value.int IntKind.u8 (a : Int)) <$> Rtype.kind t) #[hdl PT]).run Tryz.prog w = .ok (.int .u8 22) w
  tk : ∀ w : World, ((ReflectliteType.abiMethod fun t => (fun a : Nat => Value.int IntKind.u8 (a : Int)) <$> Rtype.kind t) #[hdl T]).run Tryz.prog w = .ok (.int .u8 kd) w
  te : ∀ w : World, (ReflectliteType.method ReflectliteType.elem #[.agg #[hdl PT]]).run Tryz.prog w = .ok (rty T) w
  ti : kd = 20 ∨ ((kd = 22 ∨ kd = 23 ∨ kd = 25) ∧ ∀ w : World, (ReflectliteType.relation "Implements" ReflectliteType.implements_ #[.agg #[hdl T], rty 68]).run Tryz.prog w = .ok (.bool true) w)
theorem at92 : AT2 92 94 20 := ⟨pu92, pt92, pk92, tk92, te92, .inl rfl⟩
theorem at96 : AT2 96 97 20 := ⟨pu96, pt96, pk96, tk96, te96, .inl rfl⟩
theorem ASP.ahead {S : Nat → Prop} {tb : Nat} {ifc : Bool} {fd : Option Et} {w w1 w' : World} {r : Ending} (hB : Below w.heap.size w w1) (h : ASP S tb ifc fd w1 r w') : ASP S tb ifc fd w r w' := by
  cases fd with
  | none => exact ⟨h.1, bel_tr hB h.2⟩
  | some x => exact ⟨h.1, (Kept.of' hB).trans h.2.1, h.2.2⟩
theorem rtn {S : Nat → Prop} {tb : Nat} {ifc : Bool} {fd : Option Et} {w w' : World} {r : Ending} (h : ASP S tb ifc fd w r w') : r = .returned (.bool fd.isSome) := by
  cases fd with
  | none => exact h.1
  | some x => exact h.1
set_option maxRecDepth 100000 in
set_option maxHeartbeats 16000000 in
theorem as66 {T PT : Nat} {fl kd : Int} {ifc gv : Bool} {hit : Int → Bool} {old : List Value} {S : Nat → Prop} {tb : Nat} {e : Et} {v : Value} {w : World} (hA : ATy T PT fl ifc gv hit old) (h2 : AT2 T PT kd) (hg : w.cell? ⟨1, 0, none⟩ = some (rty 68)) (hv : EVAt S (N1 tb) w e v) (hr : rightE e = true) (h1 : 1 ≤ e.k) (hTB : Blk w tb old) (hS : ∀ x, S x → x < w.heap.size ∧ x ≠ tb) :
    Calls Tryz.prog 66 #[v, .iface PT (.pointer (some ⟨tb, 0, none⟩))] w (ASP S tb ifc (fa1 hit gv e) w) := by
  have h95 := @run_callFunc_extern Tryz.prog 95 _ (fun args => ReflectliteValue.unpack (args.getD 0 (.tuple #[]))) Tryz.func95 (by kernel_rfl) (by kernel_rfl) (by kernel_rfl) (by kernel_rfl)
  have h96 := @run_callFunc_extern Tryz.prog 96 _ (ReflectliteValue.methodAny (ReflectliteValue.valueError "reflectlite.Value.Type" 0) (fun t _ _ _ => ReflectliteType.toType t)) Tryz.func96 (by kernel_rfl) (by kernel_rfl) (by kernel_rfl) (by kernel_rfl)
  have h97 := @run_callFunc_extern Tryz.prog 97 _ (ReflectliteValue.method (ReflectliteValue.valueError "reflectlite.Value.IsNil" 0) ReflectliteValue.isNil) Tryz.func97 (by kernel_rfl) (by kernel_rfl) (by kernel_rfl) (by kernel_rfl)
  have h137 := @run_callFunc_extern Tryz.prog 137 _ (ReflectliteType.abiMethod fun t => do pure (.int .u8 (← Rtype.kind t))) Tryz.func137 (by kernel_rfl) (by kernel_rfl) (by kernel_rfl) (by kernel_rfl)
  have h205 := @run_callFunc_extern Tryz.prog 205 _ (ReflectliteType.method ReflectliteType.elem) Tryz.func205 (by kernel_rfl) (by kernel_rfl) (by kernel_rfl) (by kernel_rfl)
  have h206 := @run_callFunc_extern Tryz.prog 206 _ (ReflectliteType.relation "Implements" ReflectliteType.implements_) Tryz.func206 (by kernel_rfl) (by kernel_rfl) (by kernel_rfl) (by kernel_rfl)
  obtain ⟨wa, hwa⟩ : ∃ x, w.alloc (.cells #[.pointer (some ⟨tb, 0, none⟩)] PT) = x := ⟨_, rfl⟩
  obtain ⟨ab, hab⟩ : ∃ x, w.heap.size = x := ⟨_, rfl⟩
  have hAb : Blk wa ab [.pointer (some ⟨tb, 0, none⟩)] := by rw [← hwa, ← hab]; exact Blk.new w #[.pointer (some ⟨tb, 0, none⟩)] PT
  have hB1 : Below w.heap.size w wa := by rw [← hwa]; exact (Below.refl _ _).alloc (Nat.le_refl _) _
  obtain ⟨wb, hwb⟩ : ∃ x, wa.alloc (.cells #[hdl PT, .pointer (some ⟨ab, 0, none⟩), .int .u64 150] 156) = x := ⟨_, rfl⟩
  have hB2 : Below wa.heap.size wa wb := by rw [← hwb]; exact (Below.refl _ _).alloc (Nat.le_refl _) _
  have hBB := bel_tr hB1 hB2
  have hXb : Blk wb wa.heap.size [hdl PT, .pointer (some ⟨ab, 0, none⟩), .int .u64 150] := by rw [← hwb]; exact Blk.new wa #[hdl PT, .pointer (some ⟨ab, 0, none⟩), .int .u64 150] 156
  have hAb2 := hAb.below hB2
  have hu : (ReflectliteValue.unpack (.iface PT (.pointer (some ⟨tb, 0, none⟩)))).run Tryz.prog w = .ok (rva PT ⟨ab, 0, none⟩ 150) wa := by rw [h2.pu, hwa, hab]
  have ht := h2.pt ⟨ab, 0, none⟩
  have hk := h2.pk
  have hk2 := h2.tk
  have he := h2.te
  have hni := nil_run hA.po (hAb2.cell 0 rfl)
  have mK := mKind
  have mE := mElem
  have mI := mImpl
  have hg2 : wb.cell? ⟨1, 0, none⟩ = some (rty 68) := (World.cell?_of_block (a := ⟨1, 0, none⟩) (hBB.block 1 (World.block_lt_of_cell? _ _ hg))).trans hg
  have x0 := hXb.cell 0 rfl
  have x1 := hXb.cell 1 rfl
  have x2 := hXb.cell 2 rfl
  obtain ⟨u, y, hu2⟩ := hv.if' h1 (right_ten (k := e.k) (i := e.i) (c := e.c) (t := e.t) (b := e.b) (cs := e.cs) (kids := e.l) hr).2
  subst hu2
  have HC := Lib.hid (as98 (ab := ab) hA (ehi e.l) e (.iface u y) (Nat.le_refl _) hr h1 wb (hv.below hBB (fun x hx e => (hS x hx).2 e)) hAb2 (hTB.below hBB) (by have := hTB.1; omega) (fun x hx => ⟨Nat.lt_of_lt_of_le (hS x hx).1 hBB.size, (hS x hx).2⟩))
  have HBB := Lib.hid hBB
  have hti := h2.ti
  generalize hxb : wa.heap.size = xb at *
  clear hA h2 hv hr h1 hTB hS hAb hB1 hB2 hBB hXb hAb2 hab hg
  rcases hti with rfl | ⟨hkd, hti⟩
  · go_enter Tryz.func66, Tryz.ntmps66
    go_wp2_with (go_at_call 98; (with_reducible refine HC.out.mono ?_); intro e5 w5 hI; obtain rfl := rtn hI; have HI := Lib.hid hI; clear hI)
    go_ret
    exact ASP.ahead HBB.out HI.out
  · rcases hkd with rfl | rfl | rfl
    all_goals
      go_enter Tryz.func66, Tryz.ntmps66
      go_wp2_with (go_at_call 98; (with_reducible refine HC.out.mono ?_); intro e5 w5 hI; obtain rfl := rtn hI; have HI := Lib.hid hI; clear hI)
      go_ret
      exact ASP.ahead HBB.out HI.out
end Go.Proofs.YtbldidiibkcelaaGreatDoor

/-
  errs.as of each type (walk). Not a statement of the seat.
-/
namespace Go.Proofs.YtbldidiibkcelaaGreatDoor
open Go.RowKit

/-- made of a value's type -/
def mdf (D : Nat) : Nat := if D = 101 then 147 else if D = 89 then 144 else if D = 102 then 150 else if D = 103 then 154 else if D = 106 then 164 else if D = 107 then 184 else if D = 108 then 188 else if D = 109 then 193 else 197
theorem madeAll {S N : Nat → Prop} {e : Et} {v : Value} {w : World} (hv : EVAt S N w e v) (hr : rightE e = true) (h1 : 1 ≤ e.k) : ∃ y, v = .iface (dyn e.k) y ∧ (e.k = 1 ∨ e.k = 10 → y = .agg #[.int .i64 e.c, .string ⟨e.t.toArray⟩]) ∧ (e.k = 5 → ∃ q, y = .agg #[.pointer (some ⟨q, 0, none⟩)]) ∧ (e.k = 6 → ∃ a n c, y = .slice a n c) ∧ (e.k = 2 ∨ e.k = 3 ∨ e.k = 4 ∨ e.k = 7 ∨ e.k = 8 ∨ e.k = 9 → ∃ a, y = .pointer a) ∧ ∀ wx, Below w.heap.size w wx → Calls Tryz.prog (mdf (dyn e.k)) #[y] wx (MD S e.k e.i e.c e.t e.b e.cs e.l wx) := by
  obtain ⟨k, i, c, t, b, cs, kids⟩ := e
  obtain ⟨bl, bn, bc, cl, cn, cc, l, n, cap, q, p, rfl, hE, h5, hP⟩ := hv
  unfold rightE rright1 at hr
  dsimp only at hr hE h5 hP h1 ⊢
  rw [Bool.and_eq_true] at hr
  have hEx : ∀ wx, Below w.heap.size w wx → ErAt S wx ⟨k, i, c, t, b, cs, kids⟩ bl bn bc cl cn cc l n cap := fun wx hx => hE.same (fun x _ hl => hx.block x hl) (fun x hx _ => hx)
  rcases kinds_cases k with rfl | rfl | rfl | rfl | rfl | rfl | rfl | rfl | rfl | rfl | ⟨z1, z2, z3, z4, z5, z6, z7, z8, z9, z10⟩
  · obtain ⟨rfl, h4, h6⟩ := fit_plain hr.1 (.inl rfl)
    obtain rfl := fit_body hr.1 (by decide)
    obtain rfl := List.length_eq_zero_iff.1 h4
    obtain rfl := len0 h6
    exact ⟨_, rfl, fun _ => rfl, fun h => by omega, fun h => by omega, fun h => by omega, (fun wx _ => (mk147 c t wx).mono fun r w' h => ⟨none, 0, 0, none, 0, 0, none, 0, 0, h.1, .none, h.2⟩)⟩
  · exact ⟨_, rfl, fun h => by omega, fun h => by omega, fun h => by omega, fun _ => ⟨_, rfl⟩, (fun wx hx => (mk144 ((hP (.inl rfl)).1.below hx)).mono fun r w' h => ⟨bl, bn, bc, cl, cn, cc, l, n, cap, h.1, hEx w' (bel_tr hx h.2), h.2⟩)⟩
  · exact ⟨_, rfl, fun h => by omega, fun h => by omega, fun h => by omega, fun _ => ⟨_, rfl⟩, (fun wx hx => (mk150 ((hP (.inr (.inl rfl))).1.below hx)).mono fun r w' h => ⟨bl, bn, bc, cl, cn, cc, l, n, cap, h.1, hEx w' (bel_tr hx h.2), h.2⟩)⟩
  · exact ⟨_, rfl, fun h => by omega, fun h => by omega, fun h => by omega, fun _ => ⟨_, rfl⟩, (fun wx hx => (mk154 ((hP (.inr (.inr (.inl rfl)))).1.below hx)).mono fun r w' h => ⟨bl, bn, bc, cl, cn, cc, l, n, cap, h.1, hEx w' (bel_tr hx h.2), h.2⟩)⟩
  · exact ⟨_, rfl, fun h => by omega, fun _ => ⟨_, rfl⟩, fun h => by omega, fun h => by omega, (fun wx hx => (mk164 wx ((h5 rfl).1.below hx)).mono fun r w' h => ⟨bl, bn, bc, cl, cn, cc, l, n, cap, h.1, hEx w' (bel_tr hx h.2), h.2⟩)⟩
  · obtain ⟨rfl, rfl, rfl, h6⟩ := fit_six hr.1
    obtain rfl := fit_body hr.1 (by decide)
    obtain rfl := len0 h6
    exact ⟨_, rfl, fun h => by omega, fun h => by omega, fun _ => ⟨_, _, _, rfl⟩, fun h => by omega, (fun wx hx => (mk184 cl cn cc wx).mono fun r w' h => ⟨none, 0, 0, cl, cn, cc, none, 0, 0, h.1, ⟨FoAt.nil _ _, (hEx w' (bel_tr hx h.2)).2.1, EoAt.nil _ _⟩, h.2⟩)⟩
  · obtain ⟨rfl, rfl, rfl, h4, h6⟩ := fit_none hr.1 (.inr rfl)
    obtain rfl := fit_body hr.1 (by decide)
    obtain rfl := List.length_eq_zero_iff.1 h4
    obtain rfl := len0 h6
    exact ⟨_, rfl, fun h => by omega, fun h => by omega, fun h => by omega, fun _ => ⟨_, rfl⟩, (fun wx _ => (mk144n wx).mono fun r w' h => ⟨none, 0, 0, none, 0, 0, none, 0, 0, h.1, .none, h.2⟩)⟩
  · exact ⟨_, rfl, fun h => by omega, fun h => by omega, fun h => by omega, fun _ => ⟨_, rfl⟩, (fun wx hx => (mk188 ((hP (.inr (.inr (.inr (.inl rfl))))).1.below hx)).mono fun r w' h => ⟨bl, bn, bc, cl, cn, cc, l, n, cap, h.1, hEx w' (bel_tr hx h.2), h.2⟩)⟩
  · exact ⟨_, rfl, fun h => by omega, fun h => by omega, fun h => by omega, fun _ => ⟨_, rfl⟩, (fun wx hx => (mk193 ((hP (.inr (.inr (.inr (.inr rfl))))).1.below hx)).mono fun r w' h => ⟨bl, bn, bc, cl, cn, cc, l, n, cap, h.1, hEx w' (bel_tr hx h.2), h.2⟩)⟩
  · obtain ⟨rfl, h4, h6⟩ := fit_plain hr.1 (.inr rfl)
    obtain rfl := fit_body hr.1 (by decide)
    obtain rfl := List.length_eq_zero_iff.1 h4
    obtain rfl := len0 h6
    exact ⟨_, rfl, fun _ => rfl, fun h => by omega, fun h => by omega, fun h => by omega, (fun wx _ => (mk197 c t wx).mono fun r w' h => ⟨none, 0, 0, none, 0, 0, none, 0, 0, h.1, .none, h.2⟩)⟩
  · have hk := (fit_num hr.1).1
    omega
/-- what is found is right, small, and of the kind asked for -/
theorem plain_right {i c : Int} {t : Bs} {b : Dt} {cs : List Int} {kids : Eo} (hr : rightE ⟨9, i, c, t, b, cs, kids⟩ = true) : rightE ⟨1, 0, c, t, Dt.zero, [], .nil⟩ = true := by
  have hz : zeroB Dt.zero = true := by decide
  unfold rightE rright1 at hr ⊢
  unfold fitsE fitA at hr
  unfold fitsE fitA fitB fitC fldOk
  simp [fldM, hz, rrightL, Eo.len] at hr ⊢
  exact hr.1.1.2.2.1
theorem okS_plain {c : Int} {t : Bs} : okS ⟨1, 0, c, t, Dt.zero, [], .nil⟩ := ⟨show sizeF Dt.zero.l ≤ 100000 by decide, by show (0 : Nat) ≤ 100000; omega, by show (0 : Nat) ≤ 100000; omega, trivial⟩
theorem faL_ok {hit : Int → Bool} {gv : Bool} (hg : gv = true → hit 1 = true) : ∀ (f : Eo) (m : Bool) (x : Et), rrightL m f = true → okC f → faL hit gv f = some x → rightE x = true ∧ okS x ∧ hit x.k = true ∧ 1 ≤ x.k
  | .nil, _, _, _, _, h => by cases h
  | .cons k i c t b cs ks rest, m, x, hr, hc, h => by
    rw [faL_cons] at h
    have hk : rightE ⟨k, i, c, t, b, cs, ks⟩ = true := right_head hr
    have hrest : rrightL m rest = true := by rw [rrightL, Bool.and_eq_true] at hr; exact hr.2
    cases hf : fa1 hit gv ⟨k, i, c, t, b, cs, ks⟩ with
    | some y =>
      rw [hf] at h
      cases h
      have ht := right_ten hk
      unfold fa1 at hf
      split at hf
      · cases hf
      · rename_i h0
        dsimp only at h0
        split at hf
        · rename_i hh
          cases hf
          exact ⟨hk, ⟨hc.1, hc.2.1, hc.2.2.1, hc.2.2.2.1⟩, hh, by dsimp only; omega⟩
        · split at hf
          · rename_i h9
            cases hf
            obtain ⟨h9, hv⟩ := h9
            dsimp only at h9
            subst h9
            exact ⟨plain_right hk, okS_plain, hg hv, Int.le_refl 1⟩
          · have hk2 := hk
            unfold rightE rright1 at hk2
            rw [Bool.and_eq_true] at hk2
            exact faL_ok hg ks _ x hk2.2 hc.2.2.2.1 hf
    | none =>
      rw [hf] at h
      exact faL_ok hg rest m x hrest hc.2.2.2.2 h
theorem fa1_ok {hit : Int → Bool} {gv : Bool} (hg : gv = true → hit 1 = true) {e x : Et} (hr : rightE e = true) (hok : okS e) (hf : fa1 hit gv e = some x) : rightE x = true ∧ okS x ∧ hit x.k = true ∧ 1 ≤ x.k := by
  obtain ⟨k, i, c, t, b, cs, ks⟩ := e
  have ht := right_ten hr
  unfold fa1 at hf
  split at hf
  · cases hf
  · rename_i h0
    dsimp only at h0
    split at hf
    · rename_i hh
      cases hf
      exact ⟨hr, hok, hh, by dsimp only; omega⟩
    · split at hf
      · rename_i h9
        cases hf
        obtain ⟨h9, hv⟩ := h9
        dsimp only at h9
        subst h9
        exact ⟨plain_right hr, okS_plain, hg hv, Int.le_refl 1⟩
      · unfold rightE rright1 at hr
        rw [Bool.and_eq_true] at hr
        exact faL_ok hg ks _ x hr.2 hok.2.2.2 hf
end Go.Proofs.YtbldidiibkcelaaGreatDoor

/-
  As (walk). Not a statement of the seat.
-/
namespace Go.Proofs.YtbldidiibkcelaaGreatDoor
open Go.RowKit

end Go.Proofs.YtbldidiibkcelaaGreatDoor

