/-
  errors.As of an error value (walk). Not a statement of the seat.
-/
import Derived.Test.YtbldidiibkcelaaGreatDoorPEAs3
namespace Go.Proofs.YtbldidiibkcelaaGreatDoor
open Go.RowKit Go.Extern.Stop Go.Stop Go.Extern

structure AT2 (T PT : Nat) (kd : Int) : Prop where
  pu : ∀ (t : Addr) (w : World), (ReflectliteValue.unpack (.iface PT (.pointer (some t)))).run Tryz.prog w = .ok (rva PT ⟨w.heap.size, 0, none⟩ 150) (w.alloc (.cells #[.pointer (some t)] PT))
  pt : ∀ (a : Addr) (w : World), (ReflectliteValue.methodAny (ReflectliteValue.valueError "reflectlite.Value.Type" 0) (fun t _ _ _ => ReflectliteType.toType t) #[rva PT a 150]).run Tryz.prog w = .ok (rty PT) w
  pk : ∀ w : World, ((ReflectliteType.abiMethod fun t => (fun a : Nat => Value.int IntKind.u8 (a : Int)) <$> Rtype.kind t) #[hdl PT]).run Tryz.prog w = .ok (.int .u8 22) w
  tk : ∀ w : World, ((ReflectliteType.abiMethod fun t => (fun a : Nat => Value.int IntKind.u8 (a : Int)) <$> Rtype.kind t) #[hdl T]).run Tryz.prog w = .ok (.int .u8 kd) w
  te : ∀ w : World, (ReflectliteType.method ReflectliteType.elem #[.agg #[hdl PT]]).run Tryz.prog w = .ok (rty T) w
  ti : kd = 20 ∨ ((kd = 22 ∨ kd = 23 ∨ kd = 25) ∧ ∀ w : World, (ReflectliteType.relation "Implements" ReflectliteType.implements_ #[.agg #[hdl T], rty 68]).run Tryz.prog w = .ok (.bool true) w)
theorem at101 : AT2 101 165 25 := ⟨pu101, pt101, pk101, tk101, te101, .inr ⟨by decide, ti101⟩⟩
theorem at89 : AT2 89 166 22 := ⟨pu89, pt89, pk89, tk89, te89, .inr ⟨by decide, ti89⟩⟩
theorem at102 : AT2 102 167 22 := ⟨pu102, pt102, pk102, tk102, te102, .inr ⟨by decide, ti102⟩⟩
theorem at103 : AT2 103 168 22 := ⟨pu103, pt103, pk103, tk103, te103, .inr ⟨by decide, ti103⟩⟩
theorem at106 : AT2 106 169 25 := ⟨pu106, pt106, pk106, tk106, te106, .inr ⟨by decide, ti106⟩⟩
theorem at107 : AT2 107 170 23 := ⟨pu107, pt107, pk107, tk107, te107, .inr ⟨by decide, ti107⟩⟩
theorem at108 : AT2 108 171 22 := ⟨pu108, pt108, pk108, tk108, te108, .inr ⟨by decide, ti108⟩⟩
theorem at109 : AT2 109 172 22 := ⟨pu109, pt109, pk109, tk109, te109, .inr ⟨by decide, ti109⟩⟩
theorem at110 : AT2 110 173 25 := ⟨pu110, pt110, pk110, tk110, te110, .inr ⟨by decide, ti110⟩⟩
theorem ASP.ahead {S : Nat → Prop} {tb : Nat} {ifc : Bool} {fd : Option Et} {w w1 w' : World} {r : Ending} (hB : Below w.heap.size w w1) (h : ASP S tb ifc fd w1 r w') : ASP S tb ifc fd w r w' := by
  cases fd with
  | none => exact ⟨h.1, bel_tr hB h.2⟩
  | some x => exact ⟨h.1, (Kept.of' hB).trans h.2.1, h.2.2⟩
theorem rtn {S : Nat → Prop} {tb : Nat} {ifc : Bool} {fd : Option Et} {w w' : World} {r : Ending} (h : ASP S tb ifc fd w r w') : r = .returned (.bool fd.isSome) := by
  cases fd with
  | none => exact h.1
  | some x => exact h.1
set_option maxRecDepth 100000 in
theorem as66n (t : Value) (w : World) : Calls Tryz.prog 66 #[.nilIface, t] w (fun e w' => e = .returned (.bool false) ∧ w' = w) := by
  go_enter Tryz.func66, Tryz.ntmps66
  go_wp2_with fail
  go_ret
  exact ⟨rfl, rfl⟩
set_option maxRecDepth 100000 in
set_option maxHeartbeats 16000000 in
theorem as66 {T PT : Nat} {fl kd : Int} {ifc gv : Bool} {hit : Int → Bool} {old : List Value} {S : Nat → Prop} {tb : Nat} {e : Et} {v : Value} {w : World} (hA : ATy T PT fl ifc gv hit old) (h2 : AT2 T PT kd) (hg : w.cell? ⟨1, 0, none⟩ = some (rty 68)) (hv : EVAt S (N1 tb) w e v) (hr : rightE e = true) (h1 : 1 ≤ e.k) (hTB : Blk w tb old) (hS : ∀ x, S x → x < w.heap.size ∧ x ≠ tb) :
    Calls Tryz.prog 66 #[v, .iface PT (.pointer (some ⟨tb, 0, none⟩))] w (ASP S tb ifc (fa1 hit gv e) w) := by
  have h95 := @run_callFunc_extern Tryz.prog 95 _ (fun args => ReflectliteValue.unpack (args.getD 0 (.tuple #[]))) Tryz.func95 (by kernel_rfl) (by kernel_rfl) (by kernel_rfl) (by kernel_rfl)
  have h96 := @run_callFunc_extern Tryz.prog 96 _ (ReflectliteValue.methodAny (ReflectliteValue.valueError "reflectlite.Value.Type" 0) (fun t _ _ _ => ReflectliteType.toType t)) Tryz.func96 (by kernel_rfl) (by kernel_rfl) (by kernel_rfl) (by kernel_rfl)
  have h97 := @run_callFunc_extern Tryz.prog 97 _ (ReflectliteValue.method (ReflectliteValue.valueError "reflectlite.Value.IsNil" 0) ReflectliteValue.isNil) Tryz.func97 (by kernel_rfl) (by kernel_rfl) (by kernel_rfl) (by kernel_rfl)
  have h137 := @run_callFunc_extern Tryz.prog 137 _ (ReflectliteType.abiMethod fun t => do pure (.int .u8 (← Rtype.kind t))) Tryz.func137 (by kernel_rfl) (by kernel_rfl) (by kernel_rfl) (by kernel_rfl)
  have h205 := @run_callFunc_extern Tryz.prog 205 _ (ReflectliteType.method ReflectliteType.elem) Tryz.func205 (by kernel_rfl) (by kernel_rfl) (by kernel_rfl) (by kernel_rfl)
  have h206 := @run_callFunc_extern Tryz.prog 206 _ (ReflectliteType.relation "Implements" ReflectliteType.implements_) Tryz.func206 (by kernel_rfl) (by kernel_rfl) (by kernel_rfl) (by kernel_rfl)
  obtain ⟨wa, hwa⟩ : ∃ x, w.alloc (.cells #[.pointer (some ⟨tb, 0, none⟩)] PT) = x := ⟨_, rfl⟩
  obtain ⟨ab, hab⟩ : ∃ x, w.heap.size = x := ⟨_, rfl⟩
  have hAb : Blk wa ab [.pointer (some ⟨tb, 0, none⟩)] := by rw [← hwa, ← hab]; exact Blk.new w #[.pointer (some ⟨tb, 0, none⟩)] PT
  have hB1 : Below w.heap.size w wa := by rw [← hwa]; exact (Below.refl _ _).alloc (Nat.le_refl _) _
  obtain ⟨wb, hwb⟩ : ∃ x, wa.alloc (.cells #[hdl PT, .pointer (some ⟨ab, 0, none⟩), .int .u64 150] 156) = x := ⟨_, rfl⟩
  have hB2 : Below wa.heap.size wa wb := by rw [← hwb]; exact (Below.refl _ _).alloc (Nat.le_refl _) _
  have hBB := bel_tr hB1 hB2
  have hXb : Blk wb wa.heap.size [hdl PT, .pointer (some ⟨ab, 0, none⟩), .int .u64 150] := by rw [← hwb]; exact Blk.new wa #[hdl PT, .pointer (some ⟨ab, 0, none⟩), .int .u64 150] 156
  have hAb2 := hAb.below hB2
  have hu : (ReflectliteValue.unpack (.iface PT (.pointer (some ⟨tb, 0, none⟩)))).run Tryz.prog w = .ok (rva PT ⟨ab, 0, none⟩ 150) wa := by rw [h2.pu, hwa, hab]
  have ht := h2.pt ⟨ab, 0, none⟩
  have hk := h2.pk
  have hk2 := h2.tk
  have he := h2.te
  have hni := nil_run hA.po (hAb2.cell 0 rfl)
  have mK := mKind
  have mE := mElem
  have mI := mImpl
  have hg2 : wb.cell? ⟨1, 0, none⟩ = some (rty 68) := (World.cell?_of_block (a := ⟨1, 0, none⟩) (hBB.block 1 (World.block_lt_of_cell? _ _ hg))).trans hg
  have x0 := hXb.cell 0 rfl
  have x1 := hXb.cell 1 rfl
  have x2 := hXb.cell 2 rfl
  obtain ⟨u, y, hu2⟩ := hv.if' h1 (right_ten (k := e.k) (i := e.i) (c := e.c) (t := e.t) (b := e.b) (cs := e.cs) (kids := e.l) hr).2
  subst hu2
  have HC := Lib.hid (as98 (ab := ab) hA (ehi e.l) e (.iface u y) (Nat.le_refl _) hr h1 wb (hv.below hBB (fun x hx e => (hS x hx).2 e)) hAb2 (hTB.below hBB) (by have := hTB.1; omega) (fun x hx => ⟨Nat.lt_of_lt_of_le (hS x hx).1 hBB.size, (hS x hx).2⟩))
  have HBB := Lib.hid hBB
  have hti := h2.ti
  generalize hxb : wa.heap.size = xb at *
  clear hA h2 hv hr h1 hTB hS hAb hB1 hB2 hBB hXb hAb2 hab hg
  rcases hti with rfl | ⟨hkd, hti⟩
  · go_enter Tryz.func66, Tryz.ntmps66
    go_wp2_with (go_at_call 98; (with_reducible refine HC.out.mono ?_); intro e5 w5 hI; obtain rfl := rtn hI; have HI := Lib.hid hI; clear hI)
    go_ret
    exact ASP.ahead HBB.out HI.out
  · rcases hkd with rfl | rfl | rfl
    all_goals
      go_enter Tryz.func66, Tryz.ntmps66
      go_wp2_with (go_at_call 98; (with_reducible refine HC.out.mono ?_); intro e5 w5 hI; obtain rfl := rtn hI; have HI := Lib.hid hI; clear hI)
      go_ret
      exact ASP.ahead HBB.out HI.out
end Go.Proofs.YtbldidiibkcelaaGreatDoor

/-
  errs.as of each type (walk). Not a statement of the seat.
-/
namespace Go.Proofs.YtbldidiibkcelaaGreatDoor
open Go.RowKit

/-- made of a value's type -/
def mdf (D : Nat) : Nat := if D = 101 then 147 else if D = 89 then 144 else if D = 102 then 150 else if D = 103 then 154 else if D = 106 then 164 else if D = 107 then 184 else if D = 108 then 188 else if D = 109 then 193 else 197
theorem madeAll {S N : Nat → Prop} {e : Et} {v : Value} {w : World} (hv : EVAt S N w e v) (hr : rightE e = true) (h1 : 1 ≤ e.k) : ∃ y, v = .iface (dyn e.k) y ∧ (e.k = 1 ∨ e.k = 10 → y = .agg #[.int .i64 e.c, .string ⟨e.t.toArray⟩]) ∧ (e.k = 5 → ∃ q, y = .agg #[.pointer (some ⟨q, 0, none⟩)]) ∧ (e.k = 6 → ∃ a n c, y = .slice a n c) ∧ (e.k = 2 ∨ e.k = 3 ∨ e.k = 4 ∨ e.k = 7 ∨ e.k = 8 ∨ e.k = 9 → ∃ a, y = .pointer a) ∧ ∀ wx, Below w.heap.size w wx → Calls Tryz.prog (mdf (dyn e.k)) #[y] wx (MD S e.k e.i e.c e.t e.b e.cs e.l wx) := by
  obtain ⟨k, i, c, t, b, cs, kids⟩ := e
  obtain ⟨bl, bn, bc, cl, cn, cc, l, n, cap, q, p, rfl, hE, h5, hP⟩ := hv
  unfold rightE rright1 at hr
  dsimp only at hr hE h5 hP h1 ⊢
  rw [Bool.and_eq_true] at hr
  have hEx : ∀ wx, Below w.heap.size w wx → ErAt S wx ⟨k, i, c, t, b, cs, kids⟩ bl bn bc cl cn cc l n cap := fun wx hx => hE.same (fun x _ hl => hx.block x hl) (fun x hx _ => hx)
  rcases kinds_cases k with rfl | rfl | rfl | rfl | rfl | rfl | rfl | rfl | rfl | rfl | ⟨z1, z2, z3, z4, z5, z6, z7, z8, z9, z10⟩
  · obtain ⟨rfl, h4, h6⟩ := fit_plain hr.1 (.inl rfl)
    obtain rfl := fit_body hr.1 (by decide)
    obtain rfl := List.length_eq_zero_iff.1 h4
    obtain rfl := len0 h6
    exact ⟨_, rfl, fun _ => rfl, fun h => by omega, fun h => by omega, fun h => by omega, (fun wx _ => (mk147 c t wx).mono fun r w' h => ⟨none, 0, 0, none, 0, 0, none, 0, 0, h.1, .none, h.2⟩)⟩
  · exact ⟨_, rfl, fun h => by omega, fun h => by omega, fun h => by omega, fun _ => ⟨_, rfl⟩, (fun wx hx => (mk144 ((hP (.inl rfl)).1.below hx)).mono fun r w' h => ⟨bl, bn, bc, cl, cn, cc, l, n, cap, h.1, hEx w' (bel_tr hx h.2), h.2⟩)⟩
  · exact ⟨_, rfl, fun h => by omega, fun h => by omega, fun h => by omega, fun _ => ⟨_, rfl⟩, (fun wx hx => (mk150 ((hP (.inr (.inl rfl))).1.below hx)).mono fun r w' h => ⟨bl, bn, bc, cl, cn, cc, l, n, cap, h.1, hEx w' (bel_tr hx h.2), h.2⟩)⟩
  · exact ⟨_, rfl, fun h => by omega, fun h => by omega, fun h => by omega, fun _ => ⟨_, rfl⟩, (fun wx hx => (mk154 ((hP (.inr (.inr (.inl rfl)))).1.below hx)).mono fun r w' h => ⟨bl, bn, bc, cl, cn, cc, l, n, cap, h.1, hEx w' (bel_tr hx h.2), h.2⟩)⟩
  · exact ⟨_, rfl, fun h => by omega, fun _ => ⟨_, rfl⟩, fun h => by omega, fun h => by omega, (fun wx hx => (mk164 wx ((h5 rfl).1.below hx)).mono fun r w' h => ⟨bl, bn, bc, cl, cn, cc, l, n, cap, h.1, hEx w' (bel_tr hx h.2), h.2⟩)⟩
  · obtain ⟨rfl, rfl, rfl, h6⟩ := fit_six hr.1
    obtain rfl := fit_body hr.1 (by decide)
    obtain rfl := len0 h6
    exact ⟨_, rfl, fun h => by omega, fun h => by omega, fun _ => ⟨_, _, _, rfl⟩, fun h => by omega, (fun wx hx => (mk184 cl cn cc wx).mono fun r w' h => ⟨none, 0, 0, cl, cn, cc, none, 0, 0, h.1, ⟨FoAt.nil _ _, (hEx w' (bel_tr hx h.2)).2.1, EoAt.nil _ _⟩, h.2⟩)⟩
  · obtain ⟨rfl, rfl, rfl, h4, h6⟩ := fit_none hr.1 (.inr rfl)
    obtain rfl := fit_body hr.1 (by decide)
    obtain rfl := List.length_eq_zero_iff.1 h4
    obtain rfl := len0 h6
    exact ⟨_, rfl, fun h => by omega, fun h => by omega, fun h => by omega, fun _ => ⟨_, rfl⟩, (fun wx _ => (mk144n wx).mono fun r w' h => ⟨none, 0, 0, none, 0, 0, none, 0, 0, h.1, .none, h.2⟩)⟩
  · exact ⟨_, rfl, fun h => by omega, fun h => by omega, fun h => by omega, fun _ => ⟨_, rfl⟩, (fun wx hx => (mk188 ((hP (.inr (.inr (.inr (.inl rfl))))).1.below hx)).mono fun r w' h => ⟨bl, bn, bc, cl, cn, cc, l, n, cap, h.1, hEx w' (bel_tr hx h.2), h.2⟩)⟩
  · exact ⟨_, rfl, fun h => by omega, fun h => by omega, fun h => by omega, fun _ => ⟨_, rfl⟩, (fun wx hx => (mk193 ((hP (.inr (.inr (.inr (.inr rfl))))).1.below hx)).mono fun r w' h => ⟨bl, bn, bc, cl, cn, cc, l, n, cap, h.1, hEx w' (bel_tr hx h.2), h.2⟩)⟩
  · obtain ⟨rfl, h4, h6⟩ := fit_plain hr.1 (.inr rfl)
    obtain rfl := fit_body hr.1 (by decide)
    obtain rfl := List.length_eq_zero_iff.1 h4
    obtain rfl := len0 h6
    exact ⟨_, rfl, fun _ => rfl, fun h => by omega, fun h => by omega, fun h => by omega, (fun wx _ => (mk197 c t wx).mono fun r w' h => ⟨none, 0, 0, none, 0, 0, none, 0, 0, h.1, .none, h.2⟩)⟩
  · have hk := (fit_num hr.1).1
    omega
/-- what is found is right, small, and of the kind asked for -/
theorem plain_right {i c : Int} {t : Bs} {b : Dt} {cs : List Int} {kids : Eo} (hr : rightE ⟨9, i, c, t, b, cs, kids⟩ = true) : rightE ⟨1, 0, c, t, Dt.zero, [], .nil⟩ = true := by
  have hz : zeroB Dt.zero = true := by decide
  unfold rightE rright1 at hr ⊢
  unfold fitsE fitA at hr
  unfold fitsE fitA fitB fitC fldOk
  simp [fldM, hz, rrightL, Eo.len] at hr ⊢
  exact hr.1.1.2.2.1
theorem okS_plain {c : Int} {t : Bs} : okS ⟨1, 0, c, t, Dt.zero, [], .nil⟩ := ⟨show sizeF Dt.zero.l ≤ 100000 by decide, by show (0 : Nat) ≤ 100000; omega, by show (0 : Nat) ≤ 100000; omega, trivial⟩
theorem faL_ok {hit : Int → Bool} {gv : Bool} (hg : gv = true → hit 1 = true) : ∀ (f : Eo) (m : Bool) (x : Et), rrightL m f = true → okC f → faL hit gv f = some x → rightE x = true ∧ okS x ∧ hit x.k = true ∧ 1 ≤ x.k
  | .nil, _, _, _, _, h => by cases h
  | .cons k i c t b cs ks rest, m, x, hr, hc, h => by
    rw [faL_cons] at h
    have hk : rightE ⟨k, i, c, t, b, cs, ks⟩ = true := right_head hr
    have hrest : rrightL m rest = true := by rw [rrightL, Bool.and_eq_true] at hr; exact hr.2
    cases hf : fa1 hit gv ⟨k, i, c, t, b, cs, ks⟩ with
    | some y =>
      rw [hf] at h
      cases h
      have ht := right_ten hk
      unfold fa1 at hf
      split at hf
      · cases hf
      · rename_i h0
        dsimp only at h0
        split at hf
        · rename_i hh
          cases hf
          exact ⟨hk, ⟨hc.1, hc.2.1, hc.2.2.1, hc.2.2.2.1⟩, hh, by dsimp only; omega⟩
        · split at hf
          · rename_i h9
            cases hf
            obtain ⟨h9, hv⟩ := h9
            dsimp only at h9
            subst h9
            exact ⟨plain_right hk, okS_plain, hg hv, Int.le_refl 1⟩
          · have hk2 := hk
            unfold rightE rright1 at hk2
            rw [Bool.and_eq_true] at hk2
            exact faL_ok hg ks _ x hk2.2 hc.2.2.2.1 hf
    | none =>
      rw [hf] at h
      exact faL_ok hg rest m x hrest hc.2.2.2.2 h
theorem fa1_ok {hit : Int → Bool} {gv : Bool} (hg : gv = true → hit 1 = true) {e x : Et} (hr : rightE e = true) (hok : okS e) (hf : fa1 hit gv e = some x) : rightE x = true ∧ okS x ∧ hit x.k = true ∧ 1 ≤ x.k := by
  obtain ⟨k, i, c, t, b, cs, ks⟩ := e
  have ht := right_ten hr
  unfold fa1 at hf
  split at hf
  · cases hf
  · rename_i h0
    dsimp only at h0
    split at hf
    · rename_i hh
      cases hf
      exact ⟨hr, hok, hh, by dsimp only; omega⟩
    · split at hf
      · rename_i h9
        cases hf
        obtain ⟨h9, hv⟩ := h9
        dsimp only at h9
        subst h9
        exact ⟨plain_right hr, okS_plain, hg hv, Int.le_refl 1⟩
      · unfold rightE rright1 at hr
        rw [Bool.and_eq_true] at hr
        exact faL_ok hg ks _ x hr.2 hok.2.2.2 hf
theorem ct_fin2 {fn : Func} {f : Bool} {w w2 wr : World} {kids : Eo} {k i c : Int} {t : Bs} {b : Dt} {cs : List Int} {bl : Option Addr} {bn bc : Nat} {cl : Option Addr} {cn cc : Nat} {l : Option Addr} {n cap z : Nat} {vs : List Value} {tmps : Array Value} (hr : fn.results = #[ResultVar.cell 2 29, ResultVar.tmp 3]) (ht : tmps.getD 2 undef = .pointer (some ⟨z, 0, none⟩)) (ht5 : tmps.getD 3 undef = .bool f)
    (hz : w.heap.size ≤ z ∧ z < w2.heap.size) (hBW : Below w.heap.size w w2) (hZ : Blk wr z Z11) (hF : FoAt (fun x => w2.heap.size ≤ x) wr b.l bl bn bc) (hC : Row w2.heap.size wr 1 cl cn cc (I8 cs)) (hR : Row w2.heap.size wr 11 l n cap vs ∧ EAt (fun x => w2.heap.size ≤ x ∧ blockOf l ≠ some x) wr kids vs) (hB2 : Below w2.heap.size w2 wr) :
    bodyPost Tryz.prog fn (CLT f k i c t b cs kids w) Exit.ret { tmps := tmps, defers := [] } (st11 wr z (.int .i64 k) (.int .i64 i) (.int .i64 c) (.string ⟨t.toArray⟩) (.int .i64 b.k) (.int .i64 b.i) (.int .u64 b.b) (.string ⟨b.t.toArray⟩) (.slice bl bn bc) (.slice cl cn cc) (.slice l n cap)) := by
  have h1 := st11_kept (w := wr) (b := z) (.int .i64 k) (.int .i64 i) (.int .i64 c) (.string ⟨t.toArray⟩) (.int .i64 b.k) (.int .i64 b.i) (.int .u64 b.b) (.string ⟨b.t.toArray⟩) (.slice bl bn bc) (.slice cl cn cc) (.slice l n cap)
  have h' := st11_blk hZ (.int .i64 k) (.int .i64 i) (.int .i64 c) (.string ⟨t.toArray⟩) (.int .i64 b.k) (.int .i64 b.i) (.int .u64 b.b) (.string ⟨b.t.toArray⟩) (.slice bl bn bc) (.slice cl cn cc) (.slice l n cap)
  generalize st11 wr z (.int .i64 k) (.int .i64 i) (.int .i64 c) (.string ⟨t.toArray⟩) (.int .i64 b.k) (.int .i64 b.i) (.int .u64 b.b) (.string ⟨b.t.toArray⟩) (.slice bl bn bc) (.slice cl cn cc) (.slice l n cap) = wz at *
  have ht' : tmps[2]?.getD undef = .pointer (some ⟨z, 0, none⟩) := by simpa using ht
  have ht5' : tmps[3]?.getD undef = .bool f := by simpa using ht5
  have c0 := h'.cell 0 rfl; have c1 := h'.cell 1 rfl; have c2 := h'.cell 2 rfl; have c3 := h'.cell 3 rfl; have c4 := h'.cell 4 rfl; have c5 := h'.cell 5 rfl; have c6 := h'.cell 6 rfl; have c7 := h'.cell 7 rfl; have c8 := h'.cell 8 rfl; have c9 := h'.cell 9 rfl; have c10 := h'.cell 10 rfl
  refine bodyPost_ret (v := .tuple #[vE k i c t b bl bn bc cl cn cc l n cap, .bool f]) ?_ rfl ?_
  · unfold vE
    simp [results, hr, go_sem, ht', ht5', c0, c1, c2, c3, c4, c5, c6, c7, c8, c9, c10]
  have hs := hBW.size
  have hs2 := hB2.size
  refine ⟨_, ⟨bl, bn, bc, cl, cn, cc, l, n, cap, vs, rfl, hF.same (fun x hx hl => h1.block x hl (fun e => ?_)) (fun x hx _ => ?_), (hC.keep h1 (fun x hx e => ?_)).mono (by omega), ⟨(hR.1.keep h1 (fun x hx e => ?_)).mono (by omega), EAt.same _ hR.2 (fun x hx hlt => h1.block x hlt (fun e => ?_)) (fun x hx _ => ⟨?_, hx.2⟩)⟩,
    hBW.trans ((hB2.mono (by omega)).trans (h1.below (by omega) (fun x hx e => by unfold N1 at e; omega)))⟩, rfl⟩
  · have h9 : w2.heap.size ≤ x := hx
    unfold N1 at e; omega
  · have h9 : w2.heap.size ≤ x := hx
    omega
  · have := (hC.lt x hx).1; unfold N1 at e; omega
  · have := (hR.1.lt x hx).1; unfold N1 at e; omega
  · have := hx.1; unfold N1 at e; omega
  · have := hx.1; omega
def awb (w : World) (T : Nat) (old : Array Value) : World := (zbox w).alloc (.cells old T)
theorem awb_facts (w : World) (T : Nat) (old : Array Value) : (Blk (awb w T old) w.heap.size Z11 ∧ Blk (awb w T old) (w.heap.size + 1) old.toList) ∧ Below w.heap.size w (awb w T old) ∧ (awb w T old).heap.size = w.heap.size + 2 := by
  have h3 := zbox_blk w
  have hb3 := zbox_below w
  have e3 := zbox_size w
  unfold awb
  generalize zbox w = w3 at *
  have h4 := Blk.new w3 old T
  have hb4 : Below w3.heap.size w3 (w3.alloc (.cells old T)) := (Below.refl _ _).alloc (Nat.le_refl _) _
  have e4 : (w3.alloc (.cells old T)).heap.size = w3.heap.size + 1 := by simp
  generalize w3.alloc (.cells old T) = w4 at *
  rw [e3] at h4
  exact ⟨⟨h3.below hb4, h4⟩, bel_tr hb3 hb4, by omega⟩
theorem fa1_zero {hit : Int → Bool} {gv : Bool} {e : Et} (h : e.k = 0) : fa1 hit gv e = none := by unfold fa1; rw [if_pos h]
set_option maxRecDepth 100000 in
set_option maxHeartbeats 16000000 in
theorem as67 {S N : Nat → Prop} {e : Et} {v : Value} {w : World} (hg : w.cell? ⟨1, 0, none⟩ = some (rty 68)) (hv : EVAt S N w e v) (hS : ∀ x, S x → x < w.heap.size) (hr : rightE e = true) (hok : okS e) :
    Calls Tryz.prog 67 #[v] w (CLT (fa1 (hitK 1) true e).isSome ((fa1 (hitK 1) true e).getD Et.zero).k ((fa1 (hitK 1) true e).getD Et.zero).i ((fa1 (hitK 1) true e).getD Et.zero).c ((fa1 (hitK 1) true e).getD Et.zero).t ((fa1 (hitK 1) true e).getD Et.zero).b ((fa1 (hitK 1) true e).getD Et.zero).cs ((fa1 (hitK 1) true e).getD Et.zero).l w) := by
  obtain ⟨⟨hZ, hT⟩, hB, hsz⟩ := awb_facts w 101 #[.int .i64 0, .string ⟨#[]⟩]
  obtain ⟨z, hz⟩ : ∃ x, x = w.heap.size := ⟨_, rfl⟩
  obtain ⟨tb, htb⟩ : ∃ x, x = w.heap.size + 1 := ⟨_, rfl⟩
  have hlt := World.block_lt_of_cell? _ _ hg
  have hv1 : EVAt S (N1 tb) (awb w 101 #[.int .i64 0, .string ⟨#[]⟩]) e v := (hv.mono (N' := N1 tb) (fun x hx h => by unfold N1 at h; omega)).below hB (fun x hx h => by have := hS x hx; unfold N1 at h; omega)
  have hS1 : ∀ x, S x → x < (awb w 101 #[.int .i64 0, .string ⟨#[]⟩]).heap.size ∧ x ≠ tb := fun x hx => by have := hS x hx; omega
  have hg1 : (awb w 101 #[.int .i64 0, .string ⟨#[]⟩]).cell? ⟨1, 0, none⟩ = some (rty 68) := (World.cell?_of_block (a := ⟨1, 0, none⟩) (hB.block 1 hlt)).trans hg
  have HFK := Lib.hid (fun x (h : fa1 (hitK 1) true e = some x) => fa1_ok (hit := hitK 1) (gv := true) (by decide) hr hok h)
  have HS := Lib.hid hS1
  have HV := Lib.hid (And.intro hv1 hr)
  have HG := Lib.hid hg1
  have hfd := fun (h0 : e.k = 0) => fa1_zero (hit := hitK 1) (gv := true) h0
  have HAS := Lib.hid (fun (h1 : 1 ≤ e.k) (wx : World) (hgx : wx.cell? ⟨1, 0, none⟩ = some (rty 68)) (hvx : EVAt S (N1 tb) wx e v) (hTx : Blk wx tb [.int .i64 0, .string ⟨#[]⟩]) (hSx : ∀ x, S x → x < wx.heap.size ∧ x ≠ tb) => as66 aty101 at101 hgx hvx hr h1 hTx hSx)
  have hten := right_ten (k := e.k) (i := e.i) (c := e.c) (t := e.t) (b := e.b) (cs := e.cs) (kids := e.l) hr
  generalize fa1 (hitK 1) true e = fd at *
  clear hS hok hr hv hg hlt hv1 hS1 hg1
  have hmm := fun v w => made147' v w
  go_enter Tryz.func67, Tryz.ntmps67
  go_upto_region 2 with (fail)
  change Code.wp _ _ _ _ (awb w 101 #[.int .i64 0, .string ⟨#[]⟩])
  generalize awb w 101 #[.int .i64 0, .string ⟨#[]⟩] = w1 at *
  rw [← htb, ← hz]
  rw [← hz] at hZ
  rw [← htb] at hT
  have HZ := Lib.hid hZ
  have HT := Lib.hid hT
  have HB := Lib.hid hB
  have HLT := Lib.hid (show w.heap.size ≤ z ∧ z < tb ∧ tb < w1.heap.size ∧ w.heap.size ≤ tb from by omega)
  have hzn : z ≠ tb := by omega
  have hzn2 : tb ≠ z := by omega
  clear hZ hT hB hsz hz htb
  by_cases h0 : e.k = 0
  · have hv0 : v = .nilIface := by
      obtain ⟨bl, bn, bc, cl, cn, cc, l, n, cap, q, p, hve, _⟩ := HV.out.1
      rw [h0] at hve
      exact hve
    have HFD := Lib.hid (hfd h0)
    subst hv0
    clear hfd h0 hten
    have HZ9 := Lib.hid HZ.out
    have c0 := HZ9.out.cell 0 rfl; have f0 := HZ9.out.free 0 (by simp [Z11]); have c1 := HZ9.out.cell 1 rfl; have f1 := HZ9.out.free 1 (by simp [Z11]); have c2 := HZ9.out.cell 2 rfl; have f2 := HZ9.out.free 2 (by simp [Z11]); have c3 := HZ9.out.cell 3 rfl; have f3 := HZ9.out.free 3 (by simp [Z11]); have c4 := HZ9.out.cell 4 rfl; have f4 := HZ9.out.free 4 (by simp [Z11]); have c5 := HZ9.out.cell 5 rfl; have f5 := HZ9.out.free 5 (by simp [Z11]); have c6 := HZ9.out.cell 6 rfl; have f6 := HZ9.out.free 6 (by simp [Z11]); have c7 := HZ9.out.cell 7 rfl; have f7 := HZ9.out.free 7 (by simp [Z11]); have c8 := HZ9.out.cell 8 rfl; have f8 := HZ9.out.free 8 (by simp [Z11]); have c9 := HZ9.out.cell 9 rfl; have f9 := HZ9.out.free 9 (by simp [Z11]); have c10 := HZ9.out.cell 10 rfl; have f10 := HZ9.out.free 10 (by simp [Z11])
    go_wp2_with (go_at_call 66; (with_reducible refine (as66n _ _).mono ?_); rintro r2 w2 ⟨rfl, hw2⟩; subst w2)
    rw [HFD.out]
    exact ct_fin2 (f := false) (kids := .nil) (k := 0) (i := 0) (c := 0) (t := []) (b := Dt.zero) (cs := []) (bl := none) (bn := 0) (bc := 0) (cl := none) (cn := 0) (cc := 0) (l := none) (n := 0) (cap := 0) (vs := []) (w2 := w1) Tryz.results67 rfl rfl ⟨HLT.out.1, by have := HLT.out; omega⟩ HB.out HZ9.out (FoAt.nil _ _) (Row.nil _ _ _) ⟨Row.nil _ _ _, rfl⟩ (Below.refl _ _)
  · have HC := Lib.hid (HAS.out (by omega) w1 HG.out HV.out.1 HT.out HS.out)
    clear HAS hfd h0 hten
    cases fd with
    | none =>
      go_upto_region 3 with (go_at_call 66; (with_reducible refine HC.out.mono ?_); intro r2 w2 hI; obtain ⟨rfl, hB2⟩ := ASP.no hI; have HB2 := Lib.hid hB2; have HZ9 := Lib.hid (HZ.out.below hB2); clear hI hB2)
      have c0 := HZ9.out.cell 0 rfl; have f0 := HZ9.out.free 0 (by simp [Z11]); have c1 := HZ9.out.cell 1 rfl; have f1 := HZ9.out.free 1 (by simp [Z11]); have c2 := HZ9.out.cell 2 rfl; have f2 := HZ9.out.free 2 (by simp [Z11]); have c3 := HZ9.out.cell 3 rfl; have f3 := HZ9.out.free 3 (by simp [Z11]); have c4 := HZ9.out.cell 4 rfl; have f4 := HZ9.out.free 4 (by simp [Z11]); have c5 := HZ9.out.cell 5 rfl; have f5 := HZ9.out.free 5 (by simp [Z11]); have c6 := HZ9.out.cell 6 rfl; have f6 := HZ9.out.free 6 (by simp [Z11]); have c7 := HZ9.out.cell 7 rfl; have f7 := HZ9.out.free 7 (by simp [Z11]); have c8 := HZ9.out.cell 8 rfl; have f8 := HZ9.out.free 8 (by simp [Z11]); have c9 := HZ9.out.cell 9 rfl; have f9 := HZ9.out.free 9 (by simp [Z11]); have c10 := HZ9.out.cell 10 rfl; have f10 := HZ9.out.free 10 (by simp [Z11])
      go_wp2_with fail
      exact ct_fin2 (f := false) (kids := .nil) (k := 0) (i := 0) (c := 0) (t := []) (b := Dt.zero) (cs := []) (bl := none) (bn := 0) (bc := 0) (cl := none) (cn := 0) (cc := 0) (l := none) (n := 0) (cap := 0) (vs := []) (w2 := w2) Tryz.results67 rfl rfl ⟨HLT.out.1, by have := HLT.out; have := HB2.out.size; omega⟩ (bel_tr HB.out HB2.out) HZ9.out (FoAt.nil _ _) (Row.nil _ _ _) ⟨Row.nil _ _ _, rfl⟩ (Below.refl _ _)
    | some x =>
      go_upto_region 4 with (go_at_call 66; (with_reducible refine HC.out.mono ?_); intro r2 w2 hI; obtain ⟨rfl, hK2, hX2⟩ := ASP.yes hI; have HX2 := Lib.hid hX2; have HK2 := Lib.hid hK2; clear hI hK2 hX2)
      obtain ⟨v2, hev, hXX⟩ := HX2.out
      have hxo := HFK.out x (by first | rfl | trivial)
      obtain ⟨hr2, hok2, hh, h12⟩ := hxo
      have hB2 : Below w.heap.size w w2 := HB.out.trans (HK2.out.below HB.out.size (fun y hy e => by have := HLT.out; unfold N1 at e; omega))
      have hZ2 := HZ.out.keep HK2.out (fun e => by unfold N1 at e; have := HLT.out; omega)
      have hxk : x.k = 1 := by
        have h9 := right_ten (k := x.k) (i := x.i) (c := x.c) (t := x.t) (b := x.b) (cs := x.cs) (kids := x.l) hr2
        have h8 : ktM x.k = ktM 1 := of_decide_eq_true hh
        unfold ktM at h8
        split at h8 <;> simp at h8 <;> omega
      obtain ⟨y, hy, hy1, _, _, _, HMD⟩ := madeAll hev hr2 h12
      have hyv := hy1 (.inl hxk)
      have hyt : dyn x.k = 101 := by rw [hxk]; rfl
      rw [hyt] at hy HMD
      subst hy
      subst hyv
      have q0 := hXX.cell 0 rfl
      have q1 := hXX.cell 1 rfl
      have HZ2 := Lib.hid hZ2
      have HB2 := Lib.hid hB2
      have HS2 := Lib.hid (show ∀ q, S q → q < w2.heap.size from fun q hq => Nat.lt_of_lt_of_le (HS.out q hq).1 HK2.out.size)
      have HZL := Lib.hid (show w.heap.size ≤ z ∧ z < w2.heap.size from ⟨HLT.out.1, by have := HLT.out; have := HK2.out.size; omega⟩)
      have HMD2 : Calls Tryz.prog 147 #[.agg #[.int .i64 x.c, .string ⟨x.t.toArray⟩]] w2 (MD S x.k x.i x.c x.t x.b x.cs x.l w2) := HMD w2 (Below.refl _ _)
      clear HMD
      have HMD := Lib.hid HMD2
      clear HMD2
      have HOK := Lib.hid hok2
      obtain ⟨k, i, c, t, b, cs, kids⟩ := x
      dsimp only at HMD HOK
      clear hev hXX hr2 hok2 hh h12 hB2 hZ2 hxk hyt hy1 HX2 HC
      go_wp2_with (first
        | (go_at_call 147; (with_reducible refine HMD.out.mono ?_); intro r3 w3 hmd; obtain ⟨bl, bn, bc, cl, cn, cc, l, n, cap, rfl, hE3, hB3⟩ := hmd
           have HB3 := Lib.hid hB3
           have HC3 := Lib.hid (ecloneG kids k i c t b cs bl bn bc cl cn cc l n cap S w3 hE3 (fun x hx => Nat.lt_of_lt_of_le (HS2.out x hx) hB3.size) HOK.out.1 HOK.out.2.1 HOK.out.2.2.1 HOK.out.2.2.2)
           have HZ3 := Lib.hid (HZ2.out.below hB3)
           unfold vE at HC3 ⊢
           clear hE3 hB3)
        | (go_at_call 57; (with_reducible refine HC3.out.mono ?_); intro r4 w4 hcl; obtain ⟨bl3, bn3, bc3, cl3, cn3, cc3, l3, n3, cap3, vs3, rfl, hF3, hR3, hT3, hB4⟩ := hcl
           have HZ9 := Lib.hid (HZ3.out.below hB4)
           have HR := Lib.hid (And.intro hF3 (And.intro hR3 (And.intro hT3 hB4)))
           have c0 := HZ9.out.cell 0 rfl; have f0 := HZ9.out.free 0 (by simp [Z11]); have c1 := HZ9.out.cell 1 rfl; have f1 := HZ9.out.free 1 (by simp [Z11]); have c2 := HZ9.out.cell 2 rfl; have f2 := HZ9.out.free 2 (by simp [Z11]); have c3 := HZ9.out.cell 3 rfl; have f3 := HZ9.out.free 3 (by simp [Z11]); have c4 := HZ9.out.cell 4 rfl; have f4 := HZ9.out.free 4 (by simp [Z11]); have c5 := HZ9.out.cell 5 rfl; have f5 := HZ9.out.free 5 (by simp [Z11]); have c6 := HZ9.out.cell 6 rfl; have f6 := HZ9.out.free 6 (by simp [Z11]); have c7 := HZ9.out.cell 7 rfl; have f7 := HZ9.out.free 7 (by simp [Z11]); have c8 := HZ9.out.cell 8 rfl; have f8 := HZ9.out.free 8 (by simp [Z11]); have c9 := HZ9.out.cell 9 rfl; have f9 := HZ9.out.free 9 (by simp [Z11]); have c10 := HZ9.out.cell 10 rfl; have f10 := HZ9.out.free 10 (by simp [Z11])
           unfold vE
           clear hF3 hR3 hT3 hB4))
      exact ct_fin2 Tryz.results67 rfl rfl ⟨HZL.out.1, Nat.lt_of_lt_of_le HZL.out.2 HB3.out.size⟩ (bel_tr HB2.out HB3.out) HZ9.out HR.out.1 HR.out.2.1 HR.out.2.2.1 HR.out.2.2.2
set_option maxRecDepth 100000 in
set_option maxHeartbeats 16000000 in
theorem as68 {S N : Nat → Prop} {e : Et} {v : Value} {w : World} (hg : w.cell? ⟨1, 0, none⟩ = some (rty 68)) (hv : EVAt S N w e v) (hS : ∀ x, S x → x < w.heap.size) (hr : rightE e = true) (hok : okS e) :
    Calls Tryz.prog 68 #[v] w (CLT (fa1 (hitK 2) false e).isSome ((fa1 (hitK 2) false e).getD Et.zero).k ((fa1 (hitK 2) false e).getD Et.zero).i ((fa1 (hitK 2) false e).getD Et.zero).c ((fa1 (hitK 2) false e).getD Et.zero).t ((fa1 (hitK 2) false e).getD Et.zero).b ((fa1 (hitK 2) false e).getD Et.zero).cs ((fa1 (hitK 2) false e).getD Et.zero).l w) := by
  obtain ⟨⟨hZ, hT⟩, hB, hsz⟩ := awb_facts w 89 #[.pointer none]
  obtain ⟨z, hz⟩ : ∃ x, x = w.heap.size := ⟨_, rfl⟩
  obtain ⟨tb, htb⟩ : ∃ x, x = w.heap.size + 1 := ⟨_, rfl⟩
  have hlt := World.block_lt_of_cell? _ _ hg
  have hv1 : EVAt S (N1 tb) (awb w 89 #[.pointer none]) e v := (hv.mono (N' := N1 tb) (fun x hx h => by unfold N1 at h; omega)).below hB (fun x hx h => by have := hS x hx; unfold N1 at h; omega)
  have hS1 : ∀ x, S x → x < (awb w 89 #[.pointer none]).heap.size ∧ x ≠ tb := fun x hx => by have := hS x hx; omega
  have hg1 : (awb w 89 #[.pointer none]).cell? ⟨1, 0, none⟩ = some (rty 68) := (World.cell?_of_block (a := ⟨1, 0, none⟩) (hB.block 1 hlt)).trans hg
  have HFK := Lib.hid (fun x (h : fa1 (hitK 2) false e = some x) => fa1_ok (hit := hitK 2) (gv := false) (by decide) hr hok h)
  have HS := Lib.hid hS1
  have HV := Lib.hid (And.intro hv1 hr)
  have HG := Lib.hid hg1
  have hfd := fun (h0 : e.k = 0) => fa1_zero (hit := hitK 2) (gv := false) h0
  have HAS := Lib.hid (fun (h1 : 1 ≤ e.k) (wx : World) (hgx : wx.cell? ⟨1, 0, none⟩ = some (rty 68)) (hvx : EVAt S (N1 tb) wx e v) (hTx : Blk wx tb [.pointer none]) (hSx : ∀ x, S x → x < wx.heap.size ∧ x ≠ tb) => as66 aty89 at89 hgx hvx hr h1 hTx hSx)
  have hten := right_ten (k := e.k) (i := e.i) (c := e.c) (t := e.t) (b := e.b) (cs := e.cs) (kids := e.l) hr
  generalize fa1 (hitK 2) false e = fd at *
  clear hS hok hr hv hg hlt hv1 hS1 hg1
  have hmm := fun v w => made144 v w
  go_enter Tryz.func68, Tryz.ntmps68
  go_upto_region 2 with (fail)
  change Code.wp _ _ _ _ (awb w 89 #[.pointer none])
  generalize awb w 89 #[.pointer none] = w1 at *
  rw [← htb, ← hz]
  rw [← hz] at hZ
  rw [← htb] at hT
  have HZ := Lib.hid hZ
  have HT := Lib.hid hT
  have HB := Lib.hid hB
  have HLT := Lib.hid (show w.heap.size ≤ z ∧ z < tb ∧ tb < w1.heap.size ∧ w.heap.size ≤ tb from by omega)
  have hzn : z ≠ tb := by omega
  have hzn2 : tb ≠ z := by omega
  clear hZ hT hB hsz hz htb
  by_cases h0 : e.k = 0
  · have hv0 : v = .nilIface := by
      obtain ⟨bl, bn, bc, cl, cn, cc, l, n, cap, q, p, hve, _⟩ := HV.out.1
      rw [h0] at hve
      exact hve
    have HFD := Lib.hid (hfd h0)
    subst hv0
    clear hfd h0 hten
    have HZ9 := Lib.hid HZ.out
    have c0 := HZ9.out.cell 0 rfl; have f0 := HZ9.out.free 0 (by simp [Z11]); have c1 := HZ9.out.cell 1 rfl; have f1 := HZ9.out.free 1 (by simp [Z11]); have c2 := HZ9.out.cell 2 rfl; have f2 := HZ9.out.free 2 (by simp [Z11]); have c3 := HZ9.out.cell 3 rfl; have f3 := HZ9.out.free 3 (by simp [Z11]); have c4 := HZ9.out.cell 4 rfl; have f4 := HZ9.out.free 4 (by simp [Z11]); have c5 := HZ9.out.cell 5 rfl; have f5 := HZ9.out.free 5 (by simp [Z11]); have c6 := HZ9.out.cell 6 rfl; have f6 := HZ9.out.free 6 (by simp [Z11]); have c7 := HZ9.out.cell 7 rfl; have f7 := HZ9.out.free 7 (by simp [Z11]); have c8 := HZ9.out.cell 8 rfl; have f8 := HZ9.out.free 8 (by simp [Z11]); have c9 := HZ9.out.cell 9 rfl; have f9 := HZ9.out.free 9 (by simp [Z11]); have c10 := HZ9.out.cell 10 rfl; have f10 := HZ9.out.free 10 (by simp [Z11])
    go_wp2_with (go_at_call 66; (with_reducible refine (as66n _ _).mono ?_); rintro r2 w2 ⟨rfl, hw2⟩; subst w2)
    rw [HFD.out]
    exact ct_fin2 (f := false) (kids := .nil) (k := 0) (i := 0) (c := 0) (t := []) (b := Dt.zero) (cs := []) (bl := none) (bn := 0) (bc := 0) (cl := none) (cn := 0) (cc := 0) (l := none) (n := 0) (cap := 0) (vs := []) (w2 := w1) Tryz.results68 rfl rfl ⟨HLT.out.1, by have := HLT.out; omega⟩ HB.out HZ9.out (FoAt.nil _ _) (Row.nil _ _ _) ⟨Row.nil _ _ _, rfl⟩ (Below.refl _ _)
  · have HC := Lib.hid (HAS.out (by omega) w1 HG.out HV.out.1 HT.out HS.out)
    clear HAS hfd h0 hten
    cases fd with
    | none =>
      go_upto_region 3 with (go_at_call 66; (with_reducible refine HC.out.mono ?_); intro r2 w2 hI; obtain ⟨rfl, hB2⟩ := ASP.no hI; have HB2 := Lib.hid hB2; have HZ9 := Lib.hid (HZ.out.below hB2); clear hI hB2)
      have c0 := HZ9.out.cell 0 rfl; have f0 := HZ9.out.free 0 (by simp [Z11]); have c1 := HZ9.out.cell 1 rfl; have f1 := HZ9.out.free 1 (by simp [Z11]); have c2 := HZ9.out.cell 2 rfl; have f2 := HZ9.out.free 2 (by simp [Z11]); have c3 := HZ9.out.cell 3 rfl; have f3 := HZ9.out.free 3 (by simp [Z11]); have c4 := HZ9.out.cell 4 rfl; have f4 := HZ9.out.free 4 (by simp [Z11]); have c5 := HZ9.out.cell 5 rfl; have f5 := HZ9.out.free 5 (by simp [Z11]); have c6 := HZ9.out.cell 6 rfl; have f6 := HZ9.out.free 6 (by simp [Z11]); have c7 := HZ9.out.cell 7 rfl; have f7 := HZ9.out.free 7 (by simp [Z11]); have c8 := HZ9.out.cell 8 rfl; have f8 := HZ9.out.free 8 (by simp [Z11]); have c9 := HZ9.out.cell 9 rfl; have f9 := HZ9.out.free 9 (by simp [Z11]); have c10 := HZ9.out.cell 10 rfl; have f10 := HZ9.out.free 10 (by simp [Z11])
      go_wp2_with fail
      exact ct_fin2 (f := false) (kids := .nil) (k := 0) (i := 0) (c := 0) (t := []) (b := Dt.zero) (cs := []) (bl := none) (bn := 0) (bc := 0) (cl := none) (cn := 0) (cc := 0) (l := none) (n := 0) (cap := 0) (vs := []) (w2 := w2) Tryz.results68 rfl rfl ⟨HLT.out.1, by have := HLT.out; have := HB2.out.size; omega⟩ (bel_tr HB.out HB2.out) HZ9.out (FoAt.nil _ _) (Row.nil _ _ _) ⟨Row.nil _ _ _, rfl⟩ (Below.refl _ _)
    | some x =>
      go_upto_region 4 with (go_at_call 66; (with_reducible refine HC.out.mono ?_); intro r2 w2 hI; obtain ⟨rfl, hK2, hX2⟩ := ASP.yes hI; have HX2 := Lib.hid hX2; have HK2 := Lib.hid hK2; clear hI hK2 hX2)
      obtain ⟨v2, hev, hXX⟩ := HX2.out
      have hxo := HFK.out x (by first | rfl | trivial)
      obtain ⟨hr2, hok2, hh, h12⟩ := hxo
      have hB2 : Below w.heap.size w w2 := HB.out.trans (HK2.out.below HB.out.size (fun y hy e => by have := HLT.out; unfold N1 at e; omega))
      have hZ2 := HZ.out.keep HK2.out (fun e => by unfold N1 at e; have := HLT.out; omega)
      have hxk : x.k = 2 ∨ x.k = 7 := by
        have h9 := right_ten (k := x.k) (i := x.i) (c := x.c) (t := x.t) (b := x.b) (cs := x.cs) (kids := x.l) hr2
        have h8 : ktM x.k = ktM 2 := of_decide_eq_true hh
        unfold ktM at h8
        split at h8 <;> simp at h8 <;> omega
      obtain ⟨y, hy, _, _, _, hy1, HMD⟩ := madeAll hev hr2 h12
      obtain ⟨a, hyv⟩ := hy1 (by omega)
      have hyt : dyn x.k = 89 := by rcases hxk with h | h <;> rw [h] <;> rfl
      rw [hyt] at hy HMD
      subst hy
      subst hyv
      have q0 := hXX.cell 0 rfl
      have HZ2 := Lib.hid hZ2
      have HB2 := Lib.hid hB2
      have HS2 := Lib.hid (show ∀ q, S q → q < w2.heap.size from fun q hq => Nat.lt_of_lt_of_le (HS.out q hq).1 HK2.out.size)
      have HZL := Lib.hid (show w.heap.size ≤ z ∧ z < w2.heap.size from ⟨HLT.out.1, by have := HLT.out; have := HK2.out.size; omega⟩)
      have HMD2 : Calls Tryz.prog 144 #[.pointer a] w2 (MD S x.k x.i x.c x.t x.b x.cs x.l w2) := HMD w2 (Below.refl _ _)
      clear HMD
      have HMD := Lib.hid HMD2
      clear HMD2
      have HOK := Lib.hid hok2
      obtain ⟨k, i, c, t, b, cs, kids⟩ := x
      dsimp only at HMD HOK
      clear hev hXX hr2 hok2 hh h12 hB2 hZ2 hxk hyt hy1 HX2 HC
      go_wp2_with (first
        | (go_at_call 144; (with_reducible refine HMD.out.mono ?_); intro r3 w3 hmd; obtain ⟨bl, bn, bc, cl, cn, cc, l, n, cap, rfl, hE3, hB3⟩ := hmd
           have HB3 := Lib.hid hB3
           have HC3 := Lib.hid (ecloneG kids k i c t b cs bl bn bc cl cn cc l n cap S w3 hE3 (fun x hx => Nat.lt_of_lt_of_le (HS2.out x hx) hB3.size) HOK.out.1 HOK.out.2.1 HOK.out.2.2.1 HOK.out.2.2.2)
           have HZ3 := Lib.hid (HZ2.out.below hB3)
           unfold vE at HC3 ⊢
           clear hE3 hB3)
        | (go_at_call 57; (with_reducible refine HC3.out.mono ?_); intro r4 w4 hcl; obtain ⟨bl3, bn3, bc3, cl3, cn3, cc3, l3, n3, cap3, vs3, rfl, hF3, hR3, hT3, hB4⟩ := hcl
           have HZ9 := Lib.hid (HZ3.out.below hB4)
           have HR := Lib.hid (And.intro hF3 (And.intro hR3 (And.intro hT3 hB4)))
           have c0 := HZ9.out.cell 0 rfl; have f0 := HZ9.out.free 0 (by simp [Z11]); have c1 := HZ9.out.cell 1 rfl; have f1 := HZ9.out.free 1 (by simp [Z11]); have c2 := HZ9.out.cell 2 rfl; have f2 := HZ9.out.free 2 (by simp [Z11]); have c3 := HZ9.out.cell 3 rfl; have f3 := HZ9.out.free 3 (by simp [Z11]); have c4 := HZ9.out.cell 4 rfl; have f4 := HZ9.out.free 4 (by simp [Z11]); have c5 := HZ9.out.cell 5 rfl; have f5 := HZ9.out.free 5 (by simp [Z11]); have c6 := HZ9.out.cell 6 rfl; have f6 := HZ9.out.free 6 (by simp [Z11]); have c7 := HZ9.out.cell 7 rfl; have f7 := HZ9.out.free 7 (by simp [Z11]); have c8 := HZ9.out.cell 8 rfl; have f8 := HZ9.out.free 8 (by simp [Z11]); have c9 := HZ9.out.cell 9 rfl; have f9 := HZ9.out.free 9 (by simp [Z11]); have c10 := HZ9.out.cell 10 rfl; have f10 := HZ9.out.free 10 (by simp [Z11])
           unfold vE
           clear hF3 hR3 hT3 hB4))
      exact ct_fin2 Tryz.results68 rfl rfl ⟨HZL.out.1, Nat.lt_of_lt_of_le HZL.out.2 HB3.out.size⟩ (bel_tr HB2.out HB3.out) HZ9.out HR.out.1 HR.out.2.1 HR.out.2.2.1 HR.out.2.2.2
set_option maxRecDepth 100000 in
set_option maxHeartbeats 16000000 in
theorem as69 {S N : Nat → Prop} {e : Et} {v : Value} {w : World} (hg : w.cell? ⟨1, 0, none⟩ = some (rty 68)) (hv : EVAt S N w e v) (hS : ∀ x, S x → x < w.heap.size) (hr : rightE e = true) (hok : okS e) :
    Calls Tryz.prog 69 #[v] w (CLT (fa1 (hitK 3) false e).isSome ((fa1 (hitK 3) false e).getD Et.zero).k ((fa1 (hitK 3) false e).getD Et.zero).i ((fa1 (hitK 3) false e).getD Et.zero).c ((fa1 (hitK 3) false e).getD Et.zero).t ((fa1 (hitK 3) false e).getD Et.zero).b ((fa1 (hitK 3) false e).getD Et.zero).cs ((fa1 (hitK 3) false e).getD Et.zero).l w) := by
  obtain ⟨⟨hZ, hT⟩, hB, hsz⟩ := awb_facts w 102 #[.pointer none]
  obtain ⟨z, hz⟩ : ∃ x, x = w.heap.size := ⟨_, rfl⟩
  obtain ⟨tb, htb⟩ : ∃ x, x = w.heap.size + 1 := ⟨_, rfl⟩
  have hlt := World.block_lt_of_cell? _ _ hg
  have hv1 : EVAt S (N1 tb) (awb w 102 #[.pointer none]) e v := (hv.mono (N' := N1 tb) (fun x hx h => by unfold N1 at h; omega)).below hB (fun x hx h => by have := hS x hx; unfold N1 at h; omega)
  have hS1 : ∀ x, S x → x < (awb w 102 #[.pointer none]).heap.size ∧ x ≠ tb := fun x hx => by have := hS x hx; omega
  have hg1 : (awb w 102 #[.pointer none]).cell? ⟨1, 0, none⟩ = some (rty 68) := (World.cell?_of_block (a := ⟨1, 0, none⟩) (hB.block 1 hlt)).trans hg
  have HFK := Lib.hid (fun x (h : fa1 (hitK 3) false e = some x) => fa1_ok (hit := hitK 3) (gv := false) (by decide) hr hok h)
  have HS := Lib.hid hS1
  have HV := Lib.hid (And.intro hv1 hr)
  have HG := Lib.hid hg1
  have hfd := fun (h0 : e.k = 0) => fa1_zero (hit := hitK 3) (gv := false) h0
  have HAS := Lib.hid (fun (h1 : 1 ≤ e.k) (wx : World) (hgx : wx.cell? ⟨1, 0, none⟩ = some (rty 68)) (hvx : EVAt S (N1 tb) wx e v) (hTx : Blk wx tb [.pointer none]) (hSx : ∀ x, S x → x < wx.heap.size ∧ x ≠ tb) => as66 aty102 at102 hgx hvx hr h1 hTx hSx)
  have hten := right_ten (k := e.k) (i := e.i) (c := e.c) (t := e.t) (b := e.b) (cs := e.cs) (kids := e.l) hr
  generalize fa1 (hitK 3) false e = fd at *
  clear hS hok hr hv hg hlt hv1 hS1 hg1
  have hmm := fun v w => made150' v w
  go_enter Tryz.func69, Tryz.ntmps69
  go_upto_region 2 with (fail)
  change Code.wp _ _ _ _ (awb w 102 #[.pointer none])
  generalize awb w 102 #[.pointer none] = w1 at *
  rw [← htb, ← hz]
  rw [← hz] at hZ
  rw [← htb] at hT
  have HZ := Lib.hid hZ
  have HT := Lib.hid hT
  have HB := Lib.hid hB
  have HLT := Lib.hid (show w.heap.size ≤ z ∧ z < tb ∧ tb < w1.heap.size ∧ w.heap.size ≤ tb from by omega)
  have hzn : z ≠ tb := by omega
  have hzn2 : tb ≠ z := by omega
  clear hZ hT hB hsz hz htb
  by_cases h0 : e.k = 0
  · have hv0 : v = .nilIface := by
      obtain ⟨bl, bn, bc, cl, cn, cc, l, n, cap, q, p, hve, _⟩ := HV.out.1
      rw [h0] at hve
      exact hve
    have HFD := Lib.hid (hfd h0)
    subst hv0
    clear hfd h0 hten
    have HZ9 := Lib.hid HZ.out
    have c0 := HZ9.out.cell 0 rfl; have f0 := HZ9.out.free 0 (by simp [Z11]); have c1 := HZ9.out.cell 1 rfl; have f1 := HZ9.out.free 1 (by simp [Z11]); have c2 := HZ9.out.cell 2 rfl; have f2 := HZ9.out.free 2 (by simp [Z11]); have c3 := HZ9.out.cell 3 rfl; have f3 := HZ9.out.free 3 (by simp [Z11]); have c4 := HZ9.out.cell 4 rfl; have f4 := HZ9.out.free 4 (by simp [Z11]); have c5 := HZ9.out.cell 5 rfl; have f5 := HZ9.out.free 5 (by simp [Z11]); have c6 := HZ9.out.cell 6 rfl; have f6 := HZ9.out.free 6 (by simp [Z11]); have c7 := HZ9.out.cell 7 rfl; have f7 := HZ9.out.free 7 (by simp [Z11]); have c8 := HZ9.out.cell 8 rfl; have f8 := HZ9.out.free 8 (by simp [Z11]); have c9 := HZ9.out.cell 9 rfl; have f9 := HZ9.out.free 9 (by simp [Z11]); have c10 := HZ9.out.cell 10 rfl; have f10 := HZ9.out.free 10 (by simp [Z11])
    go_wp2_with (go_at_call 66; (with_reducible refine (as66n _ _).mono ?_); rintro r2 w2 ⟨rfl, hw2⟩; subst w2)
    rw [HFD.out]
    exact ct_fin2 (f := false) (kids := .nil) (k := 0) (i := 0) (c := 0) (t := []) (b := Dt.zero) (cs := []) (bl := none) (bn := 0) (bc := 0) (cl := none) (cn := 0) (cc := 0) (l := none) (n := 0) (cap := 0) (vs := []) (w2 := w1) Tryz.results69 rfl rfl ⟨HLT.out.1, by have := HLT.out; omega⟩ HB.out HZ9.out (FoAt.nil _ _) (Row.nil _ _ _) ⟨Row.nil _ _ _, rfl⟩ (Below.refl _ _)
  · have HC := Lib.hid (HAS.out (by omega) w1 HG.out HV.out.1 HT.out HS.out)
    clear HAS hfd h0 hten
    cases fd with
    | none =>
      go_upto_region 3 with (go_at_call 66; (with_reducible refine HC.out.mono ?_); intro r2 w2 hI; obtain ⟨rfl, hB2⟩ := ASP.no hI; have HB2 := Lib.hid hB2; have HZ9 := Lib.hid (HZ.out.below hB2); clear hI hB2)
      have c0 := HZ9.out.cell 0 rfl; have f0 := HZ9.out.free 0 (by simp [Z11]); have c1 := HZ9.out.cell 1 rfl; have f1 := HZ9.out.free 1 (by simp [Z11]); have c2 := HZ9.out.cell 2 rfl; have f2 := HZ9.out.free 2 (by simp [Z11]); have c3 := HZ9.out.cell 3 rfl; have f3 := HZ9.out.free 3 (by simp [Z11]); have c4 := HZ9.out.cell 4 rfl; have f4 := HZ9.out.free 4 (by simp [Z11]); have c5 := HZ9.out.cell 5 rfl; have f5 := HZ9.out.free 5 (by simp [Z11]); have c6 := HZ9.out.cell 6 rfl; have f6 := HZ9.out.free 6 (by simp [Z11]); have c7 := HZ9.out.cell 7 rfl; have f7 := HZ9.out.free 7 (by simp [Z11]); have c8 := HZ9.out.cell 8 rfl; have f8 := HZ9.out.free 8 (by simp [Z11]); have c9 := HZ9.out.cell 9 rfl; have f9 := HZ9.out.free 9 (by simp [Z11]); have c10 := HZ9.out.cell 10 rfl; have f10 := HZ9.out.free 10 (by simp [Z11])
      go_wp2_with fail
      exact ct_fin2 (f := false) (kids := .nil) (k := 0) (i := 0) (c := 0) (t := []) (b := Dt.zero) (cs := []) (bl := none) (bn := 0) (bc := 0) (cl := none) (cn := 0) (cc := 0) (l := none) (n := 0) (cap := 0) (vs := []) (w2 := w2) Tryz.results69 rfl rfl ⟨HLT.out.1, by have := HLT.out; have := HB2.out.size; omega⟩ (bel_tr HB.out HB2.out) HZ9.out (FoAt.nil _ _) (Row.nil _ _ _) ⟨Row.nil _ _ _, rfl⟩ (Below.refl _ _)
    | some x =>
      go_upto_region 4 with (go_at_call 66; (with_reducible refine HC.out.mono ?_); intro r2 w2 hI; obtain ⟨rfl, hK2, hX2⟩ := ASP.yes hI; have HX2 := Lib.hid hX2; have HK2 := Lib.hid hK2; clear hI hK2 hX2)
      obtain ⟨v2, hev, hXX⟩ := HX2.out
      have hxo := HFK.out x (by first | rfl | trivial)
      obtain ⟨hr2, hok2, hh, h12⟩ := hxo
      have hB2 : Below w.heap.size w w2 := HB.out.trans (HK2.out.below HB.out.size (fun y hy e => by have := HLT.out; unfold N1 at e; omega))
      have hZ2 := HZ.out.keep HK2.out (fun e => by unfold N1 at e; have := HLT.out; omega)
      have hxk : x.k = 3 := by
        have h9 := right_ten (k := x.k) (i := x.i) (c := x.c) (t := x.t) (b := x.b) (cs := x.cs) (kids := x.l) hr2
        have h8 : ktM x.k = ktM 3 := of_decide_eq_true hh
        unfold ktM at h8
        split at h8 <;> simp at h8 <;> omega
      obtain ⟨y, hy, _, _, _, hy1, HMD⟩ := madeAll hev hr2 h12
      obtain ⟨a, hyv⟩ := hy1 (by omega)
      have hyt : dyn x.k = 102 := by rw [hxk]; rfl
      rw [hyt] at hy HMD
      subst hy
      subst hyv
      have q0 := hXX.cell 0 rfl
      have HZ2 := Lib.hid hZ2
      have HB2 := Lib.hid hB2
      have HS2 := Lib.hid (show ∀ q, S q → q < w2.heap.size from fun q hq => Nat.lt_of_lt_of_le (HS.out q hq).1 HK2.out.size)
      have HZL := Lib.hid (show w.heap.size ≤ z ∧ z < w2.heap.size from ⟨HLT.out.1, by have := HLT.out; have := HK2.out.size; omega⟩)
      have HMD2 : Calls Tryz.prog 150 #[.pointer a] w2 (MD S x.k x.i x.c x.t x.b x.cs x.l w2) := HMD w2 (Below.refl _ _)
      clear HMD
      have HMD := Lib.hid HMD2
      clear HMD2
      have HOK := Lib.hid hok2
      obtain ⟨k, i, c, t, b, cs, kids⟩ := x
      dsimp only at HMD HOK
      clear hev hXX hr2 hok2 hh h12 hB2 hZ2 hxk hyt hy1 HX2 HC
      go_wp2_with (first
        | (go_at_call 150; (with_reducible refine HMD.out.mono ?_); intro r3 w3 hmd; obtain ⟨bl, bn, bc, cl, cn, cc, l, n, cap, rfl, hE3, hB3⟩ := hmd
           have HB3 := Lib.hid hB3
           have HC3 := Lib.hid (ecloneG kids k i c t b cs bl bn bc cl cn cc l n cap S w3 hE3 (fun x hx => Nat.lt_of_lt_of_le (HS2.out x hx) hB3.size) HOK.out.1 HOK.out.2.1 HOK.out.2.2.1 HOK.out.2.2.2)
           have HZ3 := Lib.hid (HZ2.out.below hB3)
           unfold vE at HC3 ⊢
           clear hE3 hB3)
        | (go_at_call 57; (with_reducible refine HC3.out.mono ?_); intro r4 w4 hcl; obtain ⟨bl3, bn3, bc3, cl3, cn3, cc3, l3, n3, cap3, vs3, rfl, hF3, hR3, hT3, hB4⟩ := hcl
           have HZ9 := Lib.hid (HZ3.out.below hB4)
           have HR := Lib.hid (And.intro hF3 (And.intro hR3 (And.intro hT3 hB4)))
           have c0 := HZ9.out.cell 0 rfl; have f0 := HZ9.out.free 0 (by simp [Z11]); have c1 := HZ9.out.cell 1 rfl; have f1 := HZ9.out.free 1 (by simp [Z11]); have c2 := HZ9.out.cell 2 rfl; have f2 := HZ9.out.free 2 (by simp [Z11]); have c3 := HZ9.out.cell 3 rfl; have f3 := HZ9.out.free 3 (by simp [Z11]); have c4 := HZ9.out.cell 4 rfl; have f4 := HZ9.out.free 4 (by simp [Z11]); have c5 := HZ9.out.cell 5 rfl; have f5 := HZ9.out.free 5 (by simp [Z11]); have c6 := HZ9.out.cell 6 rfl; have f6 := HZ9.out.free 6 (by simp [Z11]); have c7 := HZ9.out.cell 7 rfl; have f7 := HZ9.out.free 7 (by simp [Z11]); have c8 := HZ9.out.cell 8 rfl; have f8 := HZ9.out.free 8 (by simp [Z11]); have c9 := HZ9.out.cell 9 rfl; have f9 := HZ9.out.free 9 (by simp [Z11]); have c10 := HZ9.out.cell 10 rfl; have f10 := HZ9.out.free 10 (by simp [Z11])
           unfold vE
           clear hF3 hR3 hT3 hB4))
      exact ct_fin2 Tryz.results69 rfl rfl ⟨HZL.out.1, Nat.lt_of_lt_of_le HZL.out.2 HB3.out.size⟩ (bel_tr HB2.out HB3.out) HZ9.out HR.out.1 HR.out.2.1 HR.out.2.2.1 HR.out.2.2.2
set_option maxRecDepth 100000 in
set_option maxHeartbeats 16000000 in
theorem as70 {S N : Nat → Prop} {e : Et} {v : Value} {w : World} (hg : w.cell? ⟨1, 0, none⟩ = some (rty 68)) (hv : EVAt S N w e v) (hS : ∀ x, S x → x < w.heap.size) (hr : rightE e = true) (hok : okS e) :
    Calls Tryz.prog 70 #[v] w (CLT (fa1 (hitK 4) false e).isSome ((fa1 (hitK 4) false e).getD Et.zero).k ((fa1 (hitK 4) false e).getD Et.zero).i ((fa1 (hitK 4) false e).getD Et.zero).c ((fa1 (hitK 4) false e).getD Et.zero).t ((fa1 (hitK 4) false e).getD Et.zero).b ((fa1 (hitK 4) false e).getD Et.zero).cs ((fa1 (hitK 4) false e).getD Et.zero).l w) := by
  obtain ⟨⟨hZ, hT⟩, hB, hsz⟩ := awb_facts w 103 #[.pointer none]
  obtain ⟨z, hz⟩ : ∃ x, x = w.heap.size := ⟨_, rfl⟩
  obtain ⟨tb, htb⟩ : ∃ x, x = w.heap.size + 1 := ⟨_, rfl⟩
  have hlt := World.block_lt_of_cell? _ _ hg
  have hv1 : EVAt S (N1 tb) (awb w 103 #[.pointer none]) e v := (hv.mono (N' := N1 tb) (fun x hx h => by unfold N1 at h; omega)).below hB (fun x hx h => by have := hS x hx; unfold N1 at h; omega)
  have hS1 : ∀ x, S x → x < (awb w 103 #[.pointer none]).heap.size ∧ x ≠ tb := fun x hx => by have := hS x hx; omega
  have hg1 : (awb w 103 #[.pointer none]).cell? ⟨1, 0, none⟩ = some (rty 68) := (World.cell?_of_block (a := ⟨1, 0, none⟩) (hB.block 1 hlt)).trans hg
  have HFK := Lib.hid (fun x (h : fa1 (hitK 4) false e = some x) => fa1_ok (hit := hitK 4) (gv := false) (by decide) hr hok h)
  have HS := Lib.hid hS1
  have HV := Lib.hid (And.intro hv1 hr)
  have HG := Lib.hid hg1
  have hfd := fun (h0 : e.k = 0) => fa1_zero (hit := hitK 4) (gv := false) h0
  have HAS := Lib.hid (fun (h1 : 1 ≤ e.k) (wx : World) (hgx : wx.cell? ⟨1, 0, none⟩ = some (rty 68)) (hvx : EVAt S (N1 tb) wx e v) (hTx : Blk wx tb [.pointer none]) (hSx : ∀ x, S x → x < wx.heap.size ∧ x ≠ tb) => as66 aty103 at103 hgx hvx hr h1 hTx hSx)
  have hten := right_ten (k := e.k) (i := e.i) (c := e.c) (t := e.t) (b := e.b) (cs := e.cs) (kids := e.l) hr
  generalize fa1 (hitK 4) false e = fd at *
  clear hS hok hr hv hg hlt hv1 hS1 hg1
  have hmm := fun v w => made154 v w
  go_enter Tryz.func70, Tryz.ntmps70
  go_upto_region 2 with (fail)
  change Code.wp _ _ _ _ (awb w 103 #[.pointer none])
  generalize awb w 103 #[.pointer none] = w1 at *
  rw [← htb, ← hz]
  rw [← hz] at hZ
  rw [← htb] at hT
  have HZ := Lib.hid hZ
  have HT := Lib.hid hT
  have HB := Lib.hid hB
  have HLT := Lib.hid (show w.heap.size ≤ z ∧ z < tb ∧ tb < w1.heap.size ∧ w.heap.size ≤ tb from by omega)
  have hzn : z ≠ tb := by omega
  have hzn2 : tb ≠ z := by omega
  clear hZ hT hB hsz hz htb
  by_cases h0 : e.k = 0
  · have hv0 : v = .nilIface := by
      obtain ⟨bl, bn, bc, cl, cn, cc, l, n, cap, q, p, hve, _⟩ := HV.out.1
      rw [h0] at hve
      exact hve
    have HFD := Lib.hid (hfd h0)
    subst hv0
    clear hfd h0 hten
    have HZ9 := Lib.hid HZ.out
    have c0 := HZ9.out.cell 0 rfl; have f0 := HZ9.out.free 0 (by simp [Z11]); have c1 := HZ9.out.cell 1 rfl; have f1 := HZ9.out.free 1 (by simp [Z11]); have c2 := HZ9.out.cell 2 rfl; have f2 := HZ9.out.free 2 (by simp [Z11]); have c3 := HZ9.out.cell 3 rfl; have f3 := HZ9.out.free 3 (by simp [Z11]); have c4 := HZ9.out.cell 4 rfl; have f4 := HZ9.out.free 4 (by simp [Z11]); have c5 := HZ9.out.cell 5 rfl; have f5 := HZ9.out.free 5 (by simp [Z11]); have c6 := HZ9.out.cell 6 rfl; have f6 := HZ9.out.free 6 (by simp [Z11]); have c7 := HZ9.out.cell 7 rfl; have f7 := HZ9.out.free 7 (by simp [Z11]); have c8 := HZ9.out.cell 8 rfl; have f8 := HZ9.out.free 8 (by simp [Z11]); have c9 := HZ9.out.cell 9 rfl; have f9 := HZ9.out.free 9 (by simp [Z11]); have c10 := HZ9.out.cell 10 rfl; have f10 := HZ9.out.free 10 (by simp [Z11])
    go_wp2_with (go_at_call 66; (with_reducible refine (as66n _ _).mono ?_); rintro r2 w2 ⟨rfl, hw2⟩; subst w2)
    rw [HFD.out]
    exact ct_fin2 (f := false) (kids := .nil) (k := 0) (i := 0) (c := 0) (t := []) (b := Dt.zero) (cs := []) (bl := none) (bn := 0) (bc := 0) (cl := none) (cn := 0) (cc := 0) (l := none) (n := 0) (cap := 0) (vs := []) (w2 := w1) Tryz.results70 rfl rfl ⟨HLT.out.1, by have := HLT.out; omega⟩ HB.out HZ9.out (FoAt.nil _ _) (Row.nil _ _ _) ⟨Row.nil _ _ _, rfl⟩ (Below.refl _ _)
  · have HC := Lib.hid (HAS.out (by omega) w1 HG.out HV.out.1 HT.out HS.out)
    clear HAS hfd h0 hten
    cases fd with
    | none =>
      go_upto_region 3 with (go_at_call 66; (with_reducible refine HC.out.mono ?_); intro r2 w2 hI; obtain ⟨rfl, hB2⟩ := ASP.no hI; have HB2 := Lib.hid hB2; have HZ9 := Lib.hid (HZ.out.below hB2); clear hI hB2)
      have c0 := HZ9.out.cell 0 rfl; have f0 := HZ9.out.free 0 (by simp [Z11]); have c1 := HZ9.out.cell 1 rfl; have f1 := HZ9.out.free 1 (by simp [Z11]); have c2 := HZ9.out.cell 2 rfl; have f2 := HZ9.out.free 2 (by simp [Z11]); have c3 := HZ9.out.cell 3 rfl; have f3 := HZ9.out.free 3 (by simp [Z11]); have c4 := HZ9.out.cell 4 rfl; have f4 := HZ9.out.free 4 (by simp [Z11]); have c5 := HZ9.out.cell 5 rfl; have f5 := HZ9.out.free 5 (by simp [Z11]); have c6 := HZ9.out.cell 6 rfl; have f6 := HZ9.out.free 6 (by simp [Z11]); have c7 := HZ9.out.cell 7 rfl; have f7 := HZ9.out.free 7 (by simp [Z11]); have c8 := HZ9.out.cell 8 rfl; have f8 := HZ9.out.free 8 (by simp [Z11]); have c9 := HZ9.out.cell 9 rfl; have f9 := HZ9.out.free 9 (by simp [Z11]); have c10 := HZ9.out.cell 10 rfl; have f10 := HZ9.out.free 10 (by simp [Z11])
      go_wp2_with fail
      exact ct_fin2 (f := false) (kids := .nil) (k := 0) (i := 0) (c := 0) (t := []) (b := Dt.zero) (cs := []) (bl := none) (bn := 0) (bc := 0) (cl := none) (cn := 0) (cc := 0) (l := none) (n := 0) (cap := 0) (vs := []) (w2 := w2) Tryz.results70 rfl rfl ⟨HLT.out.1, by have := HLT.out; have := HB2.out.size; omega⟩ (bel_tr HB.out HB2.out) HZ9.out (FoAt.nil _ _) (Row.nil _ _ _) ⟨Row.nil _ _ _, rfl⟩ (Below.refl _ _)
    | some x =>
      go_upto_region 4 with (go_at_call 66; (with_reducible refine HC.out.mono ?_); intro r2 w2 hI; obtain ⟨rfl, hK2, hX2⟩ := ASP.yes hI; have HX2 := Lib.hid hX2; have HK2 := Lib.hid hK2; clear hI hK2 hX2)
      obtain ⟨v2, hev, hXX⟩ := HX2.out
      have hxo := HFK.out x (by first | rfl | trivial)
      obtain ⟨hr2, hok2, hh, h12⟩ := hxo
      have hB2 : Below w.heap.size w w2 := HB.out.trans (HK2.out.below HB.out.size (fun y hy e => by have := HLT.out; unfold N1 at e; omega))
      have hZ2 := HZ.out.keep HK2.out (fun e => by unfold N1 at e; have := HLT.out; omega)
      have hxk : x.k = 4 := by
        have h9 := right_ten (k := x.k) (i := x.i) (c := x.c) (t := x.t) (b := x.b) (cs := x.cs) (kids := x.l) hr2
        have h8 : ktM x.k = ktM 4 := of_decide_eq_true hh
        unfold ktM at h8
        split at h8 <;> simp at h8 <;> omega
      obtain ⟨y, hy, _, _, _, hy1, HMD⟩ := madeAll hev hr2 h12
      obtain ⟨a, hyv⟩ := hy1 (by omega)
      have hyt : dyn x.k = 103 := by rw [hxk]; rfl
      rw [hyt] at hy HMD
      subst hy
      subst hyv
      have q0 := hXX.cell 0 rfl
      have HZ2 := Lib.hid hZ2
      have HB2 := Lib.hid hB2
      have HS2 := Lib.hid (show ∀ q, S q → q < w2.heap.size from fun q hq => Nat.lt_of_lt_of_le (HS.out q hq).1 HK2.out.size)
      have HZL := Lib.hid (show w.heap.size ≤ z ∧ z < w2.heap.size from ⟨HLT.out.1, by have := HLT.out; have := HK2.out.size; omega⟩)
      have HMD2 : Calls Tryz.prog 154 #[.pointer a] w2 (MD S x.k x.i x.c x.t x.b x.cs x.l w2) := HMD w2 (Below.refl _ _)
      clear HMD
      have HMD := Lib.hid HMD2
      clear HMD2
      have HOK := Lib.hid hok2
      obtain ⟨k, i, c, t, b, cs, kids⟩ := x
      dsimp only at HMD HOK
      clear hev hXX hr2 hok2 hh h12 hB2 hZ2 hxk hyt hy1 HX2 HC
      go_wp2_with (first
        | (go_at_call 154; (with_reducible refine HMD.out.mono ?_); intro r3 w3 hmd; obtain ⟨bl, bn, bc, cl, cn, cc, l, n, cap, rfl, hE3, hB3⟩ := hmd
           have HB3 := Lib.hid hB3
           have HC3 := Lib.hid (ecloneG kids k i c t b cs bl bn bc cl cn cc l n cap S w3 hE3 (fun x hx => Nat.lt_of_lt_of_le (HS2.out x hx) hB3.size) HOK.out.1 HOK.out.2.1 HOK.out.2.2.1 HOK.out.2.2.2)
           have HZ3 := Lib.hid (HZ2.out.below hB3)
           unfold vE at HC3 ⊢
           clear hE3 hB3)
        | (go_at_call 57; (with_reducible refine HC3.out.mono ?_); intro r4 w4 hcl; obtain ⟨bl3, bn3, bc3, cl3, cn3, cc3, l3, n3, cap3, vs3, rfl, hF3, hR3, hT3, hB4⟩ := hcl
           have HZ9 := Lib.hid (HZ3.out.below hB4)
           have HR := Lib.hid (And.intro hF3 (And.intro hR3 (And.intro hT3 hB4)))
           have c0 := HZ9.out.cell 0 rfl; have f0 := HZ9.out.free 0 (by simp [Z11]); have c1 := HZ9.out.cell 1 rfl; have f1 := HZ9.out.free 1 (by simp [Z11]); have c2 := HZ9.out.cell 2 rfl; have f2 := HZ9.out.free 2 (by simp [Z11]); have c3 := HZ9.out.cell 3 rfl; have f3 := HZ9.out.free 3 (by simp [Z11]); have c4 := HZ9.out.cell 4 rfl; have f4 := HZ9.out.free 4 (by simp [Z11]); have c5 := HZ9.out.cell 5 rfl; have f5 := HZ9.out.free 5 (by simp [Z11]); have c6 := HZ9.out.cell 6 rfl; have f6 := HZ9.out.free 6 (by simp [Z11]); have c7 := HZ9.out.cell 7 rfl; have f7 := HZ9.out.free 7 (by simp [Z11]); have c8 := HZ9.out.cell 8 rfl; have f8 := HZ9.out.free 8 (by simp [Z11]); have c9 := HZ9.out.cell 9 rfl; have f9 := HZ9.out.free 9 (by simp [Z11]); have c10 := HZ9.out.cell 10 rfl; have f10 := HZ9.out.free 10 (by simp [Z11])
           unfold vE
           clear hF3 hR3 hT3 hB4))
      exact ct_fin2 Tryz.results70 rfl rfl ⟨HZL.out.1, Nat.lt_of_lt_of_le HZL.out.2 HB3.out.size⟩ (bel_tr HB2.out HB3.out) HZ9.out HR.out.1 HR.out.2.1 HR.out.2.2.1 HR.out.2.2.2
set_option maxRecDepth 100000 in
set_option maxHeartbeats 16000000 in
theorem as71 {S N : Nat → Prop} {e : Et} {v : Value} {w : World} (hg : w.cell? ⟨1, 0, none⟩ = some (rty 68)) (hv : EVAt S N w e v) (hS : ∀ x, S x → x < w.heap.size) (hr : rightE e = true) (hok : okS e) :
    Calls Tryz.prog 71 #[v] w (CLT (fa1 (hitK 5) false e).isSome ((fa1 (hitK 5) false e).getD Et.zero).k ((fa1 (hitK 5) false e).getD Et.zero).i ((fa1 (hitK 5) false e).getD Et.zero).c ((fa1 (hitK 5) false e).getD Et.zero).t ((fa1 (hitK 5) false e).getD Et.zero).b ((fa1 (hitK 5) false e).getD Et.zero).cs ((fa1 (hitK 5) false e).getD Et.zero).l w) := by
  obtain ⟨⟨hZ, hT⟩, hB, hsz⟩ := awb_facts w 106 #[.pointer none]
  obtain ⟨z, hz⟩ : ∃ x, x = w.heap.size := ⟨_, rfl⟩
  obtain ⟨tb, htb⟩ : ∃ x, x = w.heap.size + 1 := ⟨_, rfl⟩
  have hlt := World.block_lt_of_cell? _ _ hg
  have hv1 : EVAt S (N1 tb) (awb w 106 #[.pointer none]) e v := (hv.mono (N' := N1 tb) (fun x hx h => by unfold N1 at h; omega)).below hB (fun x hx h => by have := hS x hx; unfold N1 at h; omega)
  have hS1 : ∀ x, S x → x < (awb w 106 #[.pointer none]).heap.size ∧ x ≠ tb := fun x hx => by have := hS x hx; omega
  have hg1 : (awb w 106 #[.pointer none]).cell? ⟨1, 0, none⟩ = some (rty 68) := (World.cell?_of_block (a := ⟨1, 0, none⟩) (hB.block 1 hlt)).trans hg
  have HFK := Lib.hid (fun x (h : fa1 (hitK 5) false e = some x) => fa1_ok (hit := hitK 5) (gv := false) (by decide) hr hok h)
  have HS := Lib.hid hS1
  have HV := Lib.hid (And.intro hv1 hr)
  have HG := Lib.hid hg1
  have hfd := fun (h0 : e.k = 0) => fa1_zero (hit := hitK 5) (gv := false) h0
  have HAS := Lib.hid (fun (h1 : 1 ≤ e.k) (wx : World) (hgx : wx.cell? ⟨1, 0, none⟩ = some (rty 68)) (hvx : EVAt S (N1 tb) wx e v) (hTx : Blk wx tb [.pointer none]) (hSx : ∀ x, S x → x < wx.heap.size ∧ x ≠ tb) => as66 aty106 at106 hgx hvx hr h1 hTx hSx)
  have hten := right_ten (k := e.k) (i := e.i) (c := e.c) (t := e.t) (b := e.b) (cs := e.cs) (kids := e.l) hr
  generalize fa1 (hitK 5) false e = fd at *
  clear hS hok hr hv hg hlt hv1 hS1 hg1
  have hmm := fun v w => made164 v w
  go_enter Tryz.func71, Tryz.ntmps71
  go_upto_region 2 with (fail)
  change Code.wp _ _ _ _ (awb w 106 #[.pointer none])
  generalize awb w 106 #[.pointer none] = w1 at *
  rw [← htb, ← hz]
  rw [← hz] at hZ
  rw [← htb] at hT
  have HZ := Lib.hid hZ
  have HT := Lib.hid hT
  have HB := Lib.hid hB
  have HLT := Lib.hid (show w.heap.size ≤ z ∧ z < tb ∧ tb < w1.heap.size ∧ w.heap.size ≤ tb from by omega)
  have hzn : z ≠ tb := by omega
  have hzn2 : tb ≠ z := by omega
  clear hZ hT hB hsz hz htb
  by_cases h0 : e.k = 0
  · have hv0 : v = .nilIface := by
      obtain ⟨bl, bn, bc, cl, cn, cc, l, n, cap, q, p, hve, _⟩ := HV.out.1
      rw [h0] at hve
      exact hve
    have HFD := Lib.hid (hfd h0)
    subst hv0
    clear hfd h0 hten
    have HZ9 := Lib.hid HZ.out
    have c0 := HZ9.out.cell 0 rfl; have f0 := HZ9.out.free 0 (by simp [Z11]); have c1 := HZ9.out.cell 1 rfl; have f1 := HZ9.out.free 1 (by simp [Z11]); have c2 := HZ9.out.cell 2 rfl; have f2 := HZ9.out.free 2 (by simp [Z11]); have c3 := HZ9.out.cell 3 rfl; have f3 := HZ9.out.free 3 (by simp [Z11]); have c4 := HZ9.out.cell 4 rfl; have f4 := HZ9.out.free 4 (by simp [Z11]); have c5 := HZ9.out.cell 5 rfl; have f5 := HZ9.out.free 5 (by simp [Z11]); have c6 := HZ9.out.cell 6 rfl; have f6 := HZ9.out.free 6 (by simp [Z11]); have c7 := HZ9.out.cell 7 rfl; have f7 := HZ9.out.free 7 (by simp [Z11]); have c8 := HZ9.out.cell 8 rfl; have f8 := HZ9.out.free 8 (by simp [Z11]); have c9 := HZ9.out.cell 9 rfl; have f9 := HZ9.out.free 9 (by simp [Z11]); have c10 := HZ9.out.cell 10 rfl; have f10 := HZ9.out.free 10 (by simp [Z11])
    go_wp2_with (go_at_call 66; (with_reducible refine (as66n _ _).mono ?_); rintro r2 w2 ⟨rfl, hw2⟩; subst w2)
    rw [HFD.out]
    exact ct_fin2 (f := false) (kids := .nil) (k := 0) (i := 0) (c := 0) (t := []) (b := Dt.zero) (cs := []) (bl := none) (bn := 0) (bc := 0) (cl := none) (cn := 0) (cc := 0) (l := none) (n := 0) (cap := 0) (vs := []) (w2 := w1) Tryz.results71 rfl rfl ⟨HLT.out.1, by have := HLT.out; omega⟩ HB.out HZ9.out (FoAt.nil _ _) (Row.nil _ _ _) ⟨Row.nil _ _ _, rfl⟩ (Below.refl _ _)
  · have HC := Lib.hid (HAS.out (by omega) w1 HG.out HV.out.1 HT.out HS.out)
    clear HAS hfd h0 hten
    cases fd with
    | none =>
      go_upto_region 3 with (go_at_call 66; (with_reducible refine HC.out.mono ?_); intro r2 w2 hI; obtain ⟨rfl, hB2⟩ := ASP.no hI; have HB2 := Lib.hid hB2; have HZ9 := Lib.hid (HZ.out.below hB2); clear hI hB2)
      have c0 := HZ9.out.cell 0 rfl; have f0 := HZ9.out.free 0 (by simp [Z11]); have c1 := HZ9.out.cell 1 rfl; have f1 := HZ9.out.free 1 (by simp [Z11]); have c2 := HZ9.out.cell 2 rfl; have f2 := HZ9.out.free 2 (by simp [Z11]); have c3 := HZ9.out.cell 3 rfl; have f3 := HZ9.out.free 3 (by simp [Z11]); have c4 := HZ9.out.cell 4 rfl; have f4 := HZ9.out.free 4 (by simp [Z11]); have c5 := HZ9.out.cell 5 rfl; have f5 := HZ9.out.free 5 (by simp [Z11]); have c6 := HZ9.out.cell 6 rfl; have f6 := HZ9.out.free 6 (by simp [Z11]); have c7 := HZ9.out.cell 7 rfl; have f7 := HZ9.out.free 7 (by simp [Z11]); have c8 := HZ9.out.cell 8 rfl; have f8 := HZ9.out.free 8 (by simp [Z11]); have c9 := HZ9.out.cell 9 rfl; have f9 := HZ9.out.free 9 (by simp [Z11]); have c10 := HZ9.out.cell 10 rfl; have f10 := HZ9.out.free 10 (by simp [Z11])
      go_wp2_with fail
      exact ct_fin2 (f := false) (kids := .nil) (k := 0) (i := 0) (c := 0) (t := []) (b := Dt.zero) (cs := []) (bl := none) (bn := 0) (bc := 0) (cl := none) (cn := 0) (cc := 0) (l := none) (n := 0) (cap := 0) (vs := []) (w2 := w2) Tryz.results71 rfl rfl ⟨HLT.out.1, by have := HLT.out; have := HB2.out.size; omega⟩ (bel_tr HB.out HB2.out) HZ9.out (FoAt.nil _ _) (Row.nil _ _ _) ⟨Row.nil _ _ _, rfl⟩ (Below.refl _ _)
    | some x =>
      go_upto_region 4 with (go_at_call 66; (with_reducible refine HC.out.mono ?_); intro r2 w2 hI; obtain ⟨rfl, hK2, hX2⟩ := ASP.yes hI; have HX2 := Lib.hid hX2; have HK2 := Lib.hid hK2; clear hI hK2 hX2)
      obtain ⟨v2, hev, hXX⟩ := HX2.out
      have hxo := HFK.out x (by first | rfl | trivial)
      obtain ⟨hr2, hok2, hh, h12⟩ := hxo
      have hB2 : Below w.heap.size w w2 := HB.out.trans (HK2.out.below HB.out.size (fun y hy e => by have := HLT.out; unfold N1 at e; omega))
      have hZ2 := HZ.out.keep HK2.out (fun e => by unfold N1 at e; have := HLT.out; omega)
      have hxk : x.k = 5 := by
        have h9 := right_ten (k := x.k) (i := x.i) (c := x.c) (t := x.t) (b := x.b) (cs := x.cs) (kids := x.l) hr2
        have h8 : ktM x.k = ktM 5 := of_decide_eq_true hh
        unfold ktM at h8
        split at h8 <;> simp at h8 <;> omega
      obtain ⟨y, hy, _, hy1, _, _, HMD⟩ := madeAll hev hr2 h12
      obtain ⟨a, hyv⟩ := hy1 (hxk)
      have hyt : dyn x.k = 106 := by rw [hxk]; rfl
      rw [hyt] at hy HMD
      subst hy
      subst hyv
      have q0 := hXX.cell 0 rfl
      have HZ2 := Lib.hid hZ2
      have HB2 := Lib.hid hB2
      have HS2 := Lib.hid (show ∀ q, S q → q < w2.heap.size from fun q hq => Nat.lt_of_lt_of_le (HS.out q hq).1 HK2.out.size)
      have HZL := Lib.hid (show w.heap.size ≤ z ∧ z < w2.heap.size from ⟨HLT.out.1, by have := HLT.out; have := HK2.out.size; omega⟩)
      have HMD2 : Calls Tryz.prog 164 #[.agg #[.pointer (some ⟨a, 0, none⟩)]] w2 (MD S x.k x.i x.c x.t x.b x.cs x.l w2) := HMD w2 (Below.refl _ _)
      clear HMD
      have HMD := Lib.hid HMD2
      clear HMD2
      have HOK := Lib.hid hok2
      obtain ⟨k, i, c, t, b, cs, kids⟩ := x
      dsimp only at HMD HOK
      clear hev hXX hr2 hok2 hh h12 hB2 hZ2 hxk hyt hy1 HX2 HC
      go_wp2_with (first
        | (go_at_call 164; (with_reducible refine HMD.out.mono ?_); intro r3 w3 hmd; obtain ⟨bl, bn, bc, cl, cn, cc, l, n, cap, rfl, hE3, hB3⟩ := hmd
           have HB3 := Lib.hid hB3
           have HC3 := Lib.hid (ecloneG kids k i c t b cs bl bn bc cl cn cc l n cap S w3 hE3 (fun x hx => Nat.lt_of_lt_of_le (HS2.out x hx) hB3.size) HOK.out.1 HOK.out.2.1 HOK.out.2.2.1 HOK.out.2.2.2)
           have HZ3 := Lib.hid (HZ2.out.below hB3)
           unfold vE at HC3 ⊢
           clear hE3 hB3)
        | (go_at_call 57; (with_reducible refine HC3.out.mono ?_); intro r4 w4 hcl; obtain ⟨bl3, bn3, bc3, cl3, cn3, cc3, l3, n3, cap3, vs3, rfl, hF3, hR3, hT3, hB4⟩ := hcl
           have HZ9 := Lib.hid (HZ3.out.below hB4)
           have HR := Lib.hid (And.intro hF3 (And.intro hR3 (And.intro hT3 hB4)))
           have c0 := HZ9.out.cell 0 rfl; have f0 := HZ9.out.free 0 (by simp [Z11]); have c1 := HZ9.out.cell 1 rfl; have f1 := HZ9.out.free 1 (by simp [Z11]); have c2 := HZ9.out.cell 2 rfl; have f2 := HZ9.out.free 2 (by simp [Z11]); have c3 := HZ9.out.cell 3 rfl; have f3 := HZ9.out.free 3 (by simp [Z11]); have c4 := HZ9.out.cell 4 rfl; have f4 := HZ9.out.free 4 (by simp [Z11]); have c5 := HZ9.out.cell 5 rfl; have f5 := HZ9.out.free 5 (by simp [Z11]); have c6 := HZ9.out.cell 6 rfl; have f6 := HZ9.out.free 6 (by simp [Z11]); have c7 := HZ9.out.cell 7 rfl; have f7 := HZ9.out.free 7 (by simp [Z11]); have c8 := HZ9.out.cell 8 rfl; have f8 := HZ9.out.free 8 (by simp [Z11]); have c9 := HZ9.out.cell 9 rfl; have f9 := HZ9.out.free 9 (by simp [Z11]); have c10 := HZ9.out.cell 10 rfl; have f10 := HZ9.out.free 10 (by simp [Z11])
           unfold vE
           clear hF3 hR3 hT3 hB4))
      exact ct_fin2 Tryz.results71 rfl rfl ⟨HZL.out.1, Nat.lt_of_lt_of_le HZL.out.2 HB3.out.size⟩ (bel_tr HB2.out HB3.out) HZ9.out HR.out.1 HR.out.2.1 HR.out.2.2.1 HR.out.2.2.2
set_option maxRecDepth 100000 in
set_option maxHeartbeats 16000000 in
theorem as72 {S N : Nat → Prop} {e : Et} {v : Value} {w : World} (hg : w.cell? ⟨1, 0, none⟩ = some (rty 68)) (hv : EVAt S N w e v) (hS : ∀ x, S x → x < w.heap.size) (hr : rightE e = true) (hok : okS e) :
    Calls Tryz.prog 72 #[v] w (CLT (fa1 (hitK 6) false e).isSome ((fa1 (hitK 6) false e).getD Et.zero).k ((fa1 (hitK 6) false e).getD Et.zero).i ((fa1 (hitK 6) false e).getD Et.zero).c ((fa1 (hitK 6) false e).getD Et.zero).t ((fa1 (hitK 6) false e).getD Et.zero).b ((fa1 (hitK 6) false e).getD Et.zero).cs ((fa1 (hitK 6) false e).getD Et.zero).l w) := by
  obtain ⟨⟨hZ, hT⟩, hB, hsz⟩ := awb_facts w 107 #[.slice none 0 0]
  obtain ⟨z, hz⟩ : ∃ x, x = w.heap.size := ⟨_, rfl⟩
  obtain ⟨tb, htb⟩ : ∃ x, x = w.heap.size + 1 := ⟨_, rfl⟩
  have hlt := World.block_lt_of_cell? _ _ hg
  have hv1 : EVAt S (N1 tb) (awb w 107 #[.slice none 0 0]) e v := (hv.mono (N' := N1 tb) (fun x hx h => by unfold N1 at h; omega)).below hB (fun x hx h => by have := hS x hx; unfold N1 at h; omega)
  have hS1 : ∀ x, S x → x < (awb w 107 #[.slice none 0 0]).heap.size ∧ x ≠ tb := fun x hx => by have := hS x hx; omega
  have hg1 : (awb w 107 #[.slice none 0 0]).cell? ⟨1, 0, none⟩ = some (rty 68) := (World.cell?_of_block (a := ⟨1, 0, none⟩) (hB.block 1 hlt)).trans hg
  have HFK := Lib.hid (fun x (h : fa1 (hitK 6) false e = some x) => fa1_ok (hit := hitK 6) (gv := false) (by decide) hr hok h)
  have HS := Lib.hid hS1
  have HV := Lib.hid (And.intro hv1 hr)
  have HG := Lib.hid hg1
  have hfd := fun (h0 : e.k = 0) => fa1_zero (hit := hitK 6) (gv := false) h0
  have HAS := Lib.hid (fun (h1 : 1 ≤ e.k) (wx : World) (hgx : wx.cell? ⟨1, 0, none⟩ = some (rty 68)) (hvx : EVAt S (N1 tb) wx e v) (hTx : Blk wx tb [.slice none 0 0]) (hSx : ∀ x, S x → x < wx.heap.size ∧ x ≠ tb) => as66 aty107 at107 hgx hvx hr h1 hTx hSx)
  have hten := right_ten (k := e.k) (i := e.i) (c := e.c) (t := e.t) (b := e.b) (cs := e.cs) (kids := e.l) hr
  generalize fa1 (hitK 6) false e = fd at *
  clear hS hok hr hv hg hlt hv1 hS1 hg1
  have hmm := fun v w => made184 v w
  go_enter Tryz.func72, Tryz.ntmps72
  go_upto_region 2 with (fail)
  change Code.wp _ _ _ _ (awb w 107 #[.slice none 0 0])
  generalize awb w 107 #[.slice none 0 0] = w1 at *
  rw [← htb, ← hz]
  rw [← hz] at hZ
  rw [← htb] at hT
  have HZ := Lib.hid hZ
  have HT := Lib.hid hT
  have HB := Lib.hid hB
  have HLT := Lib.hid (show w.heap.size ≤ z ∧ z < tb ∧ tb < w1.heap.size ∧ w.heap.size ≤ tb from by omega)
  have hzn : z ≠ tb := by omega
  have hzn2 : tb ≠ z := by omega
  clear hZ hT hB hsz hz htb
  by_cases h0 : e.k = 0
  · have hv0 : v = .nilIface := by
      obtain ⟨bl, bn, bc, cl, cn, cc, l, n, cap, q, p, hve, _⟩ := HV.out.1
      rw [h0] at hve
      exact hve
    have HFD := Lib.hid (hfd h0)
    subst hv0
    clear hfd h0 hten
    have HZ9 := Lib.hid HZ.out
    have c0 := HZ9.out.cell 0 rfl; have f0 := HZ9.out.free 0 (by simp [Z11]); have c1 := HZ9.out.cell 1 rfl; have f1 := HZ9.out.free 1 (by simp [Z11]); have c2 := HZ9.out.cell 2 rfl; have f2 := HZ9.out.free 2 (by simp [Z11]); have c3 := HZ9.out.cell 3 rfl; have f3 := HZ9.out.free 3 (by simp [Z11]); have c4 := HZ9.out.cell 4 rfl; have f4 := HZ9.out.free 4 (by simp [Z11]); have c5 := HZ9.out.cell 5 rfl; have f5 := HZ9.out.free 5 (by simp [Z11]); have c6 := HZ9.out.cell 6 rfl; have f6 := HZ9.out.free 6 (by simp [Z11]); have c7 := HZ9.out.cell 7 rfl; have f7 := HZ9.out.free 7 (by simp [Z11]); have c8 := HZ9.out.cell 8 rfl; have f8 := HZ9.out.free 8 (by simp [Z11]); have c9 := HZ9.out.cell 9 rfl; have f9 := HZ9.out.free 9 (by simp [Z11]); have c10 := HZ9.out.cell 10 rfl; have f10 := HZ9.out.free 10 (by simp [Z11])
    go_wp2_with (go_at_call 66; (with_reducible refine (as66n _ _).mono ?_); rintro r2 w2 ⟨rfl, hw2⟩; subst w2)
    rw [HFD.out]
    exact ct_fin2 (f := false) (kids := .nil) (k := 0) (i := 0) (c := 0) (t := []) (b := Dt.zero) (cs := []) (bl := none) (bn := 0) (bc := 0) (cl := none) (cn := 0) (cc := 0) (l := none) (n := 0) (cap := 0) (vs := []) (w2 := w1) Tryz.results72 rfl rfl ⟨HLT.out.1, by have := HLT.out; omega⟩ HB.out HZ9.out (FoAt.nil _ _) (Row.nil _ _ _) ⟨Row.nil _ _ _, rfl⟩ (Below.refl _ _)
  · have HC := Lib.hid (HAS.out (by omega) w1 HG.out HV.out.1 HT.out HS.out)
    clear HAS hfd h0 hten
    cases fd with
    | none =>
      go_upto_region 3 with (go_at_call 66; (with_reducible refine HC.out.mono ?_); intro r2 w2 hI; obtain ⟨rfl, hB2⟩ := ASP.no hI; have HB2 := Lib.hid hB2; have HZ9 := Lib.hid (HZ.out.below hB2); clear hI hB2)
      have c0 := HZ9.out.cell 0 rfl; have f0 := HZ9.out.free 0 (by simp [Z11]); have c1 := HZ9.out.cell 1 rfl; have f1 := HZ9.out.free 1 (by simp [Z11]); have c2 := HZ9.out.cell 2 rfl; have f2 := HZ9.out.free 2 (by simp [Z11]); have c3 := HZ9.out.cell 3 rfl; have f3 := HZ9.out.free 3 (by simp [Z11]); have c4 := HZ9.out.cell 4 rfl; have f4 := HZ9.out.free 4 (by simp [Z11]); have c5 := HZ9.out.cell 5 rfl; have f5 := HZ9.out.free 5 (by simp [Z11]); have c6 := HZ9.out.cell 6 rfl; have f6 := HZ9.out.free 6 (by simp [Z11]); have c7 := HZ9.out.cell 7 rfl; have f7 := HZ9.out.free 7 (by simp [Z11]); have c8 := HZ9.out.cell 8 rfl; have f8 := HZ9.out.free 8 (by simp [Z11]); have c9 := HZ9.out.cell 9 rfl; have f9 := HZ9.out.free 9 (by simp [Z11]); have c10 := HZ9.out.cell 10 rfl; have f10 := HZ9.out.free 10 (by simp [Z11])
      go_wp2_with fail
      exact ct_fin2 (f := false) (kids := .nil) (k := 0) (i := 0) (c := 0) (t := []) (b := Dt.zero) (cs := []) (bl := none) (bn := 0) (bc := 0) (cl := none) (cn := 0) (cc := 0) (l := none) (n := 0) (cap := 0) (vs := []) (w2 := w2) Tryz.results72 rfl rfl ⟨HLT.out.1, by have := HLT.out; have := HB2.out.size; omega⟩ (bel_tr HB.out HB2.out) HZ9.out (FoAt.nil _ _) (Row.nil _ _ _) ⟨Row.nil _ _ _, rfl⟩ (Below.refl _ _)
    | some x =>
      go_upto_region 4 with (go_at_call 66; (with_reducible refine HC.out.mono ?_); intro r2 w2 hI; obtain ⟨rfl, hK2, hX2⟩ := ASP.yes hI; have HX2 := Lib.hid hX2; have HK2 := Lib.hid hK2; clear hI hK2 hX2)
      obtain ⟨v2, hev, hXX⟩ := HX2.out
      have hxo := HFK.out x (by first | rfl | trivial)
      obtain ⟨hr2, hok2, hh, h12⟩ := hxo
      have hB2 : Below w.heap.size w w2 := HB.out.trans (HK2.out.below HB.out.size (fun y hy e => by have := HLT.out; unfold N1 at e; omega))
      have hZ2 := HZ.out.keep HK2.out (fun e => by unfold N1 at e; have := HLT.out; omega)
      have hxk : x.k = 6 := by
        have h9 := right_ten (k := x.k) (i := x.i) (c := x.c) (t := x.t) (b := x.b) (cs := x.cs) (kids := x.l) hr2
        have h8 : ktM x.k = ktM 6 := of_decide_eq_true hh
        unfold ktM at h8
        split at h8 <;> simp at h8 <;> omega
      obtain ⟨y, hy, _, _, hy1, _, HMD⟩ := madeAll hev hr2 h12
      obtain ⟨a, n1, c1, hyv⟩ := hy1 (hxk)
      have hyt : dyn x.k = 107 := by rw [hxk]; rfl
      rw [hyt] at hy HMD
      subst hy
      subst hyv
      have q0 := hXX.cell 0 rfl
      have HZ2 := Lib.hid hZ2
      have HB2 := Lib.hid hB2
      have HS2 := Lib.hid (show ∀ q, S q → q < w2.heap.size from fun q hq => Nat.lt_of_lt_of_le (HS.out q hq).1 HK2.out.size)
      have HZL := Lib.hid (show w.heap.size ≤ z ∧ z < w2.heap.size from ⟨HLT.out.1, by have := HLT.out; have := HK2.out.size; omega⟩)
      have HMD2 : Calls Tryz.prog 184 #[.slice a n1 c1] w2 (MD S x.k x.i x.c x.t x.b x.cs x.l w2) := HMD w2 (Below.refl _ _)
      clear HMD
      have HMD := Lib.hid HMD2
      clear HMD2
      have HOK := Lib.hid hok2
      obtain ⟨k, i, c, t, b, cs, kids⟩ := x
      dsimp only at HMD HOK
      clear hev hXX hr2 hok2 hh h12 hB2 hZ2 hxk hyt hy1 HX2 HC
      go_wp2_with (first
        | (go_at_call 184; (with_reducible refine HMD.out.mono ?_); intro r3 w3 hmd; obtain ⟨bl, bn, bc, cl, cn, cc, l, n, cap, rfl, hE3, hB3⟩ := hmd
           have HB3 := Lib.hid hB3
           have HC3 := Lib.hid (ecloneG kids k i c t b cs bl bn bc cl cn cc l n cap S w3 hE3 (fun x hx => Nat.lt_of_lt_of_le (HS2.out x hx) hB3.size) HOK.out.1 HOK.out.2.1 HOK.out.2.2.1 HOK.out.2.2.2)
           have HZ3 := Lib.hid (HZ2.out.below hB3)
           unfold vE at HC3 ⊢
           clear hE3 hB3)
        | (go_at_call 57; (with_reducible refine HC3.out.mono ?_); intro r4 w4 hcl; obtain ⟨bl3, bn3, bc3, cl3, cn3, cc3, l3, n3, cap3, vs3, rfl, hF3, hR3, hT3, hB4⟩ := hcl
           have HZ9 := Lib.hid (HZ3.out.below hB4)
           have HR := Lib.hid (And.intro hF3 (And.intro hR3 (And.intro hT3 hB4)))
           have c0 := HZ9.out.cell 0 rfl; have f0 := HZ9.out.free 0 (by simp [Z11]); have c1 := HZ9.out.cell 1 rfl; have f1 := HZ9.out.free 1 (by simp [Z11]); have c2 := HZ9.out.cell 2 rfl; have f2 := HZ9.out.free 2 (by simp [Z11]); have c3 := HZ9.out.cell 3 rfl; have f3 := HZ9.out.free 3 (by simp [Z11]); have c4 := HZ9.out.cell 4 rfl; have f4 := HZ9.out.free 4 (by simp [Z11]); have c5 := HZ9.out.cell 5 rfl; have f5 := HZ9.out.free 5 (by simp [Z11]); have c6 := HZ9.out.cell 6 rfl; have f6 := HZ9.out.free 6 (by simp [Z11]); have c7 := HZ9.out.cell 7 rfl; have f7 := HZ9.out.free 7 (by simp [Z11]); have c8 := HZ9.out.cell 8 rfl; have f8 := HZ9.out.free 8 (by simp [Z11]); have c9 := HZ9.out.cell 9 rfl; have f9 := HZ9.out.free 9 (by simp [Z11]); have c10 := HZ9.out.cell 10 rfl; have f10 := HZ9.out.free 10 (by simp [Z11])
           unfold vE
           clear hF3 hR3 hT3 hB4))
      exact ct_fin2 Tryz.results72 rfl rfl ⟨HZL.out.1, Nat.lt_of_lt_of_le HZL.out.2 HB3.out.size⟩ (bel_tr HB2.out HB3.out) HZ9.out HR.out.1 HR.out.2.1 HR.out.2.2.1 HR.out.2.2.2
set_option maxRecDepth 100000 in
set_option maxHeartbeats 16000000 in
theorem as73 {S N : Nat → Prop} {e : Et} {v : Value} {w : World} (hg : w.cell? ⟨1, 0, none⟩ = some (rty 68)) (hv : EVAt S N w e v) (hS : ∀ x, S x → x < w.heap.size) (hr : rightE e = true) (hok : okS e) :
    Calls Tryz.prog 73 #[v] w (CLT (fa1 (hitK 8) false e).isSome ((fa1 (hitK 8) false e).getD Et.zero).k ((fa1 (hitK 8) false e).getD Et.zero).i ((fa1 (hitK 8) false e).getD Et.zero).c ((fa1 (hitK 8) false e).getD Et.zero).t ((fa1 (hitK 8) false e).getD Et.zero).b ((fa1 (hitK 8) false e).getD Et.zero).cs ((fa1 (hitK 8) false e).getD Et.zero).l w) := by
  obtain ⟨⟨hZ, hT⟩, hB, hsz⟩ := awb_facts w 108 #[.pointer none]
  obtain ⟨z, hz⟩ : ∃ x, x = w.heap.size := ⟨_, rfl⟩
  obtain ⟨tb, htb⟩ : ∃ x, x = w.heap.size + 1 := ⟨_, rfl⟩
  have hlt := World.block_lt_of_cell? _ _ hg
  have hv1 : EVAt S (N1 tb) (awb w 108 #[.pointer none]) e v := (hv.mono (N' := N1 tb) (fun x hx h => by unfold N1 at h; omega)).below hB (fun x hx h => by have := hS x hx; unfold N1 at h; omega)
  have hS1 : ∀ x, S x → x < (awb w 108 #[.pointer none]).heap.size ∧ x ≠ tb := fun x hx => by have := hS x hx; omega
  have hg1 : (awb w 108 #[.pointer none]).cell? ⟨1, 0, none⟩ = some (rty 68) := (World.cell?_of_block (a := ⟨1, 0, none⟩) (hB.block 1 hlt)).trans hg
  have HFK := Lib.hid (fun x (h : fa1 (hitK 8) false e = some x) => fa1_ok (hit := hitK 8) (gv := false) (by decide) hr hok h)
  have HS := Lib.hid hS1
  have HV := Lib.hid (And.intro hv1 hr)
  have HG := Lib.hid hg1
  have hfd := fun (h0 : e.k = 0) => fa1_zero (hit := hitK 8) (gv := false) h0
  have HAS := Lib.hid (fun (h1 : 1 ≤ e.k) (wx : World) (hgx : wx.cell? ⟨1, 0, none⟩ = some (rty 68)) (hvx : EVAt S (N1 tb) wx e v) (hTx : Blk wx tb [.pointer none]) (hSx : ∀ x, S x → x < wx.heap.size ∧ x ≠ tb) => as66 aty108 at108 hgx hvx hr h1 hTx hSx)
  have hten := right_ten (k := e.k) (i := e.i) (c := e.c) (t := e.t) (b := e.b) (cs := e.cs) (kids := e.l) hr
  generalize fa1 (hitK 8) false e = fd at *
  clear hS hok hr hv hg hlt hv1 hS1 hg1
  have hmm := fun v w => made188 v w
  go_enter Tryz.func73, Tryz.ntmps73
  go_upto_region 2 with (fail)
  change Code.wp _ _ _ _ (awb w 108 #[.pointer none])
  generalize awb w 108 #[.pointer none] = w1 at *
  rw [← htb, ← hz]
  rw [← hz] at hZ
  rw [← htb] at hT
  have HZ := Lib.hid hZ
  have HT := Lib.hid hT
  have HB := Lib.hid hB
  have HLT := Lib.hid (show w.heap.size ≤ z ∧ z < tb ∧ tb < w1.heap.size ∧ w.heap.size ≤ tb from by omega)
  have hzn : z ≠ tb := by omega
  have hzn2 : tb ≠ z := by omega
  clear hZ hT hB hsz hz htb
  by_cases h0 : e.k = 0
  · have hv0 : v = .nilIface := by
      obtain ⟨bl, bn, bc, cl, cn, cc, l, n, cap, q, p, hve, _⟩ := HV.out.1
      rw [h0] at hve
      exact hve
    have HFD := Lib.hid (hfd h0)
    subst hv0
    clear hfd h0 hten
    have HZ9 := Lib.hid HZ.out
    have c0 := HZ9.out.cell 0 rfl; have f0 := HZ9.out.free 0 (by simp [Z11]); have c1 := HZ9.out.cell 1 rfl; have f1 := HZ9.out.free 1 (by simp [Z11]); have c2 := HZ9.out.cell 2 rfl; have f2 := HZ9.out.free 2 (by simp [Z11]); have c3 := HZ9.out.cell 3 rfl; have f3 := HZ9.out.free 3 (by simp [Z11]); have c4 := HZ9.out.cell 4 rfl; have f4 := HZ9.out.free 4 (by simp [Z11]); have c5 := HZ9.out.cell 5 rfl; have f5 := HZ9.out.free 5 (by simp [Z11]); have c6 := HZ9.out.cell 6 rfl; have f6 := HZ9.out.free 6 (by simp [Z11]); have c7 := HZ9.out.cell 7 rfl; have f7 := HZ9.out.free 7 (by simp [Z11]); have c8 := HZ9.out.cell 8 rfl; have f8 := HZ9.out.free 8 (by simp [Z11]); have c9 := HZ9.out.cell 9 rfl; have f9 := HZ9.out.free 9 (by simp [Z11]); have c10 := HZ9.out.cell 10 rfl; have f10 := HZ9.out.free 10 (by simp [Z11])
    go_wp2_with (go_at_call 66; (with_reducible refine (as66n _ _).mono ?_); rintro r2 w2 ⟨rfl, hw2⟩; subst w2)
    rw [HFD.out]
    exact ct_fin2 (f := false) (kids := .nil) (k := 0) (i := 0) (c := 0) (t := []) (b := Dt.zero) (cs := []) (bl := none) (bn := 0) (bc := 0) (cl := none) (cn := 0) (cc := 0) (l := none) (n := 0) (cap := 0) (vs := []) (w2 := w1) Tryz.results73 rfl rfl ⟨HLT.out.1, by have := HLT.out; omega⟩ HB.out HZ9.out (FoAt.nil _ _) (Row.nil _ _ _) ⟨Row.nil _ _ _, rfl⟩ (Below.refl _ _)
  · have HC := Lib.hid (HAS.out (by omega) w1 HG.out HV.out.1 HT.out HS.out)
    clear HAS hfd h0 hten
    cases fd with
    | none =>
      go_upto_region 3 with (go_at_call 66; (with_reducible refine HC.out.mono ?_); intro r2 w2 hI; obtain ⟨rfl, hB2⟩ := ASP.no hI; have HB2 := Lib.hid hB2; have HZ9 := Lib.hid (HZ.out.below hB2); clear hI hB2)
      have c0 := HZ9.out.cell 0 rfl; have f0 := HZ9.out.free 0 (by simp [Z11]); have c1 := HZ9.out.cell 1 rfl; have f1 := HZ9.out.free 1 (by simp [Z11]); have c2 := HZ9.out.cell 2 rfl; have f2 := HZ9.out.free 2 (by simp [Z11]); have c3 := HZ9.out.cell 3 rfl; have f3 := HZ9.out.free 3 (by simp [Z11]); have c4 := HZ9.out.cell 4 rfl; have f4 := HZ9.out.free 4 (by simp [Z11]); have c5 := HZ9.out.cell 5 rfl; have f5 := HZ9.out.free 5 (by simp [Z11]); have c6 := HZ9.out.cell 6 rfl; have f6 := HZ9.out.free 6 (by simp [Z11]); have c7 := HZ9.out.cell 7 rfl; have f7 := HZ9.out.free 7 (by simp [Z11]); have c8 := HZ9.out.cell 8 rfl; have f8 := HZ9.out.free 8 (by simp [Z11]); have c9 := HZ9.out.cell 9 rfl; have f9 := HZ9.out.free 9 (by simp [Z11]); have c10 := HZ9.out.cell 10 rfl; have f10 := HZ9.out.free 10 (by simp [Z11])
      go_wp2_with fail
      exact ct_fin2 (f := false) (kids := .nil) (k := 0) (i := 0) (c := 0) (t := []) (b := Dt.zero) (cs := []) (bl := none) (bn := 0) (bc := 0) (cl := none) (cn := 0) (cc := 0) (l := none) (n := 0) (cap := 0) (vs := []) (w2 := w2) Tryz.results73 rfl rfl ⟨HLT.out.1, by have := HLT.out; have := HB2.out.size; omega⟩ (bel_tr HB.out HB2.out) HZ9.out (FoAt.nil _ _) (Row.nil _ _ _) ⟨Row.nil _ _ _, rfl⟩ (Below.refl _ _)
    | some x =>
      go_upto_region 4 with (go_at_call 66; (with_reducible refine HC.out.mono ?_); intro r2 w2 hI; obtain ⟨rfl, hK2, hX2⟩ := ASP.yes hI; have HX2 := Lib.hid hX2; have HK2 := Lib.hid hK2; clear hI hK2 hX2)
      obtain ⟨v2, hev, hXX⟩ := HX2.out
      have hxo := HFK.out x (by first | rfl | trivial)
      obtain ⟨hr2, hok2, hh, h12⟩ := hxo
      have hB2 : Below w.heap.size w w2 := HB.out.trans (HK2.out.below HB.out.size (fun y hy e => by have := HLT.out; unfold N1 at e; omega))
      have hZ2 := HZ.out.keep HK2.out (fun e => by unfold N1 at e; have := HLT.out; omega)
      have hxk : x.k = 8 := by
        have h9 := right_ten (k := x.k) (i := x.i) (c := x.c) (t := x.t) (b := x.b) (cs := x.cs) (kids := x.l) hr2
        have h8 : ktM x.k = ktM 8 := of_decide_eq_true hh
        unfold ktM at h8
        split at h8 <;> simp at h8 <;> omega
      obtain ⟨y, hy, _, _, _, hy1, HMD⟩ := madeAll hev hr2 h12
      obtain ⟨a, hyv⟩ := hy1 (by omega)
      have hyt : dyn x.k = 108 := by rw [hxk]; rfl
      rw [hyt] at hy HMD
      subst hy
      subst hyv
      have q0 := hXX.cell 0 rfl
      have HZ2 := Lib.hid hZ2
      have HB2 := Lib.hid hB2
      have HS2 := Lib.hid (show ∀ q, S q → q < w2.heap.size from fun q hq => Nat.lt_of_lt_of_le (HS.out q hq).1 HK2.out.size)
      have HZL := Lib.hid (show w.heap.size ≤ z ∧ z < w2.heap.size from ⟨HLT.out.1, by have := HLT.out; have := HK2.out.size; omega⟩)
      have HMD2 : Calls Tryz.prog 188 #[.pointer a] w2 (MD S x.k x.i x.c x.t x.b x.cs x.l w2) := HMD w2 (Below.refl _ _)
      clear HMD
      have HMD := Lib.hid HMD2
      clear HMD2
      have HOK := Lib.hid hok2
      obtain ⟨k, i, c, t, b, cs, kids⟩ := x
      dsimp only at HMD HOK
      clear hev hXX hr2 hok2 hh h12 hB2 hZ2 hxk hyt hy1 HX2 HC
      go_wp2_with (first
        | (go_at_call 188; (with_reducible refine HMD.out.mono ?_); intro r3 w3 hmd; obtain ⟨bl, bn, bc, cl, cn, cc, l, n, cap, rfl, hE3, hB3⟩ := hmd
           have HB3 := Lib.hid hB3
           have HC3 := Lib.hid (ecloneG kids k i c t b cs bl bn bc cl cn cc l n cap S w3 hE3 (fun x hx => Nat.lt_of_lt_of_le (HS2.out x hx) hB3.size) HOK.out.1 HOK.out.2.1 HOK.out.2.2.1 HOK.out.2.2.2)
           have HZ3 := Lib.hid (HZ2.out.below hB3)
           unfold vE at HC3 ⊢
           clear hE3 hB3)
        | (go_at_call 57; (with_reducible refine HC3.out.mono ?_); intro r4 w4 hcl; obtain ⟨bl3, bn3, bc3, cl3, cn3, cc3, l3, n3, cap3, vs3, rfl, hF3, hR3, hT3, hB4⟩ := hcl
           have HZ9 := Lib.hid (HZ3.out.below hB4)
           have HR := Lib.hid (And.intro hF3 (And.intro hR3 (And.intro hT3 hB4)))
           have c0 := HZ9.out.cell 0 rfl; have f0 := HZ9.out.free 0 (by simp [Z11]); have c1 := HZ9.out.cell 1 rfl; have f1 := HZ9.out.free 1 (by simp [Z11]); have c2 := HZ9.out.cell 2 rfl; have f2 := HZ9.out.free 2 (by simp [Z11]); have c3 := HZ9.out.cell 3 rfl; have f3 := HZ9.out.free 3 (by simp [Z11]); have c4 := HZ9.out.cell 4 rfl; have f4 := HZ9.out.free 4 (by simp [Z11]); have c5 := HZ9.out.cell 5 rfl; have f5 := HZ9.out.free 5 (by simp [Z11]); have c6 := HZ9.out.cell 6 rfl; have f6 := HZ9.out.free 6 (by simp [Z11]); have c7 := HZ9.out.cell 7 rfl; have f7 := HZ9.out.free 7 (by simp [Z11]); have c8 := HZ9.out.cell 8 rfl; have f8 := HZ9.out.free 8 (by simp [Z11]); have c9 := HZ9.out.cell 9 rfl; have f9 := HZ9.out.free 9 (by simp [Z11]); have c10 := HZ9.out.cell 10 rfl; have f10 := HZ9.out.free 10 (by simp [Z11])
           unfold vE
           clear hF3 hR3 hT3 hB4))
      exact ct_fin2 Tryz.results73 rfl rfl ⟨HZL.out.1, Nat.lt_of_lt_of_le HZL.out.2 HB3.out.size⟩ (bel_tr HB2.out HB3.out) HZ9.out HR.out.1 HR.out.2.1 HR.out.2.2.1 HR.out.2.2.2
set_option maxRecDepth 100000 in
set_option maxHeartbeats 16000000 in
theorem as74 {S N : Nat → Prop} {e : Et} {v : Value} {w : World} (hg : w.cell? ⟨1, 0, none⟩ = some (rty 68)) (hv : EVAt S N w e v) (hS : ∀ x, S x → x < w.heap.size) (hr : rightE e = true) (hok : okS e) :
    Calls Tryz.prog 74 #[v] w (CLT (fa1 (hitK 9) false e).isSome ((fa1 (hitK 9) false e).getD Et.zero).k ((fa1 (hitK 9) false e).getD Et.zero).i ((fa1 (hitK 9) false e).getD Et.zero).c ((fa1 (hitK 9) false e).getD Et.zero).t ((fa1 (hitK 9) false e).getD Et.zero).b ((fa1 (hitK 9) false e).getD Et.zero).cs ((fa1 (hitK 9) false e).getD Et.zero).l w) := by
  obtain ⟨⟨hZ, hT⟩, hB, hsz⟩ := awb_facts w 109 #[.pointer none]
  obtain ⟨z, hz⟩ : ∃ x, x = w.heap.size := ⟨_, rfl⟩
  obtain ⟨tb, htb⟩ : ∃ x, x = w.heap.size + 1 := ⟨_, rfl⟩
  have hlt := World.block_lt_of_cell? _ _ hg
  have hv1 : EVAt S (N1 tb) (awb w 109 #[.pointer none]) e v := (hv.mono (N' := N1 tb) (fun x hx h => by unfold N1 at h; omega)).below hB (fun x hx h => by have := hS x hx; unfold N1 at h; omega)
  have hS1 : ∀ x, S x → x < (awb w 109 #[.pointer none]).heap.size ∧ x ≠ tb := fun x hx => by have := hS x hx; omega
  have hg1 : (awb w 109 #[.pointer none]).cell? ⟨1, 0, none⟩ = some (rty 68) := (World.cell?_of_block (a := ⟨1, 0, none⟩) (hB.block 1 hlt)).trans hg
  have HFK := Lib.hid (fun x (h : fa1 (hitK 9) false e = some x) => fa1_ok (hit := hitK 9) (gv := false) (by decide) hr hok h)
  have HS := Lib.hid hS1
  have HV := Lib.hid (And.intro hv1 hr)
  have HG := Lib.hid hg1
  have hfd := fun (h0 : e.k = 0) => fa1_zero (hit := hitK 9) (gv := false) h0
  have HAS := Lib.hid (fun (h1 : 1 ≤ e.k) (wx : World) (hgx : wx.cell? ⟨1, 0, none⟩ = some (rty 68)) (hvx : EVAt S (N1 tb) wx e v) (hTx : Blk wx tb [.pointer none]) (hSx : ∀ x, S x → x < wx.heap.size ∧ x ≠ tb) => as66 aty109 at109 hgx hvx hr h1 hTx hSx)
  have hten := right_ten (k := e.k) (i := e.i) (c := e.c) (t := e.t) (b := e.b) (cs := e.cs) (kids := e.l) hr
  generalize fa1 (hitK 9) false e = fd at *
  clear hS hok hr hv hg hlt hv1 hS1 hg1
  have hmm := fun v w => made193 v w
  go_enter Tryz.func74, Tryz.ntmps74
  go_upto_region 2 with (fail)
  change Code.wp _ _ _ _ (awb w 109 #[.pointer none])
  generalize awb w 109 #[.pointer none] = w1 at *
  rw [← htb, ← hz]
  rw [← hz] at hZ
  rw [← htb] at hT
  have HZ := Lib.hid hZ
  have HT := Lib.hid hT
  have HB := Lib.hid hB
  have HLT := Lib.hid (show w.heap.size ≤ z ∧ z < tb ∧ tb < w1.heap.size ∧ w.heap.size ≤ tb from by omega)
  have hzn : z ≠ tb := by omega
  have hzn2 : tb ≠ z := by omega
  clear hZ hT hB hsz hz htb
  by_cases h0 : e.k = 0
  · have hv0 : v = .nilIface := by
      obtain ⟨bl, bn, bc, cl, cn, cc, l, n, cap, q, p, hve, _⟩ := HV.out.1
      rw [h0] at hve
      exact hve
    have HFD := Lib.hid (hfd h0)
    subst hv0
    clear hfd h0 hten
    have HZ9 := Lib.hid HZ.out
    have c0 := HZ9.out.cell 0 rfl; have f0 := HZ9.out.free 0 (by simp [Z11]); have c1 := HZ9.out.cell 1 rfl; have f1 := HZ9.out.free 1 (by simp [Z11]); have c2 := HZ9.out.cell 2 rfl; have f2 := HZ9.out.free 2 (by simp [Z11]); have c3 := HZ9.out.cell 3 rfl; have f3 := HZ9.out.free 3 (by simp [Z11]); have c4 := HZ9.out.cell 4 rfl; have f4 := HZ9.out.free 4 (by simp [Z11]); have c5 := HZ9.out.cell 5 rfl; have f5 := HZ9.out.free 5 (by simp [Z11]); have c6 := HZ9.out.cell 6 rfl; have f6 := HZ9.out.free 6 (by simp [Z11]); have c7 := HZ9.out.cell 7 rfl; have f7 := HZ9.out.free 7 (by simp [Z11]); have c8 := HZ9.out.cell 8 rfl; have f8 := HZ9.out.free 8 (by simp [Z11]); have c9 := HZ9.out.cell 9 rfl; have f9 := HZ9.out.free 9 (by simp [Z11]); have c10 := HZ9.out.cell 10 rfl; have f10 := HZ9.out.free 10 (by simp [Z11])
    go_wp2_with (go_at_call 66; (with_reducible refine (as66n _ _).mono ?_); rintro r2 w2 ⟨rfl, hw2⟩; subst w2)
    rw [HFD.out]
    exact ct_fin2 (f := false) (kids := .nil) (k := 0) (i := 0) (c := 0) (t := []) (b := Dt.zero) (cs := []) (bl := none) (bn := 0) (bc := 0) (cl := none) (cn := 0) (cc := 0) (l := none) (n := 0) (cap := 0) (vs := []) (w2 := w1) Tryz.results74 rfl rfl ⟨HLT.out.1, by have := HLT.out; omega⟩ HB.out HZ9.out (FoAt.nil _ _) (Row.nil _ _ _) ⟨Row.nil _ _ _, rfl⟩ (Below.refl _ _)
  · have HC := Lib.hid (HAS.out (by omega) w1 HG.out HV.out.1 HT.out HS.out)
    clear HAS hfd h0 hten
    cases fd with
    | none =>
      go_upto_region 3 with (go_at_call 66; (with_reducible refine HC.out.mono ?_); intro r2 w2 hI; obtain ⟨rfl, hB2⟩ := ASP.no hI; have HB2 := Lib.hid hB2; have HZ9 := Lib.hid (HZ.out.below hB2); clear hI hB2)
      have c0 := HZ9.out.cell 0 rfl; have f0 := HZ9.out.free 0 (by simp [Z11]); have c1 := HZ9.out.cell 1 rfl; have f1 := HZ9.out.free 1 (by simp [Z11]); have c2 := HZ9.out.cell 2 rfl; have f2 := HZ9.out.free 2 (by simp [Z11]); have c3 := HZ9.out.cell 3 rfl; have f3 := HZ9.out.free 3 (by simp [Z11]); have c4 := HZ9.out.cell 4 rfl; have f4 := HZ9.out.free 4 (by simp [Z11]); have c5 := HZ9.out.cell 5 rfl; have f5 := HZ9.out.free 5 (by simp [Z11]); have c6 := HZ9.out.cell 6 rfl; have f6 := HZ9.out.free 6 (by simp [Z11]); have c7 := HZ9.out.cell 7 rfl; have f7 := HZ9.out.free 7 (by simp [Z11]); have c8 := HZ9.out.cell 8 rfl; have f8 := HZ9.out.free 8 (by simp [Z11]); have c9 := HZ9.out.cell 9 rfl; have f9 := HZ9.out.free 9 (by simp [Z11]); have c10 := HZ9.out.cell 10 rfl; have f10 := HZ9.out.free 10 (by simp [Z11])
      go_wp2_with fail
      exact ct_fin2 (f := false) (kids := .nil) (k := 0) (i := 0) (c := 0) (t := []) (b := Dt.zero) (cs := []) (bl := none) (bn := 0) (bc := 0) (cl := none) (cn := 0) (cc := 0) (l := none) (n := 0) (cap := 0) (vs := []) (w2 := w2) Tryz.results74 rfl rfl ⟨HLT.out.1, by have := HLT.out; have := HB2.out.size; omega⟩ (bel_tr HB.out HB2.out) HZ9.out (FoAt.nil _ _) (Row.nil _ _ _) ⟨Row.nil _ _ _, rfl⟩ (Below.refl _ _)
    | some x =>
      go_upto_region 4 with (go_at_call 66; (with_reducible refine HC.out.mono ?_); intro r2 w2 hI; obtain ⟨rfl, hK2, hX2⟩ := ASP.yes hI; have HX2 := Lib.hid hX2; have HK2 := Lib.hid hK2; clear hI hK2 hX2)
      obtain ⟨v2, hev, hXX⟩ := HX2.out
      have hxo := HFK.out x (by first | rfl | trivial)
      obtain ⟨hr2, hok2, hh, h12⟩ := hxo
      have hB2 : Below w.heap.size w w2 := HB.out.trans (HK2.out.below HB.out.size (fun y hy e => by have := HLT.out; unfold N1 at e; omega))
      have hZ2 := HZ.out.keep HK2.out (fun e => by unfold N1 at e; have := HLT.out; omega)
      have hxk : x.k = 9 := by
        have h9 := right_ten (k := x.k) (i := x.i) (c := x.c) (t := x.t) (b := x.b) (cs := x.cs) (kids := x.l) hr2
        have h8 : ktM x.k = ktM 9 := of_decide_eq_true hh
        unfold ktM at h8
        split at h8 <;> simp at h8 <;> omega
      obtain ⟨y, hy, _, _, _, hy1, HMD⟩ := madeAll hev hr2 h12
      obtain ⟨a, hyv⟩ := hy1 (by omega)
      have hyt : dyn x.k = 109 := by rw [hxk]; rfl
      rw [hyt] at hy HMD
      subst hy
      subst hyv
      have q0 := hXX.cell 0 rfl
      have HZ2 := Lib.hid hZ2
      have HB2 := Lib.hid hB2
      have HS2 := Lib.hid (show ∀ q, S q → q < w2.heap.size from fun q hq => Nat.lt_of_lt_of_le (HS.out q hq).1 HK2.out.size)
      have HZL := Lib.hid (show w.heap.size ≤ z ∧ z < w2.heap.size from ⟨HLT.out.1, by have := HLT.out; have := HK2.out.size; omega⟩)
      have HMD2 : Calls Tryz.prog 193 #[.pointer a] w2 (MD S x.k x.i x.c x.t x.b x.cs x.l w2) := HMD w2 (Below.refl _ _)
      clear HMD
      have HMD := Lib.hid HMD2
      clear HMD2
      have HOK := Lib.hid hok2
      obtain ⟨k, i, c, t, b, cs, kids⟩ := x
      dsimp only at HMD HOK
      clear hev hXX hr2 hok2 hh h12 hB2 hZ2 hxk hyt hy1 HX2 HC
      go_wp2_with (first
        | (go_at_call 193; (with_reducible refine HMD.out.mono ?_); intro r3 w3 hmd; obtain ⟨bl, bn, bc, cl, cn, cc, l, n, cap, rfl, hE3, hB3⟩ := hmd
           have HB3 := Lib.hid hB3
           have HC3 := Lib.hid (ecloneG kids k i c t b cs bl bn bc cl cn cc l n cap S w3 hE3 (fun x hx => Nat.lt_of_lt_of_le (HS2.out x hx) hB3.size) HOK.out.1 HOK.out.2.1 HOK.out.2.2.1 HOK.out.2.2.2)
           have HZ3 := Lib.hid (HZ2.out.below hB3)
           unfold vE at HC3 ⊢
           clear hE3 hB3)
        | (go_at_call 57; (with_reducible refine HC3.out.mono ?_); intro r4 w4 hcl; obtain ⟨bl3, bn3, bc3, cl3, cn3, cc3, l3, n3, cap3, vs3, rfl, hF3, hR3, hT3, hB4⟩ := hcl
           have HZ9 := Lib.hid (HZ3.out.below hB4)
           have HR := Lib.hid (And.intro hF3 (And.intro hR3 (And.intro hT3 hB4)))
           have c0 := HZ9.out.cell 0 rfl; have f0 := HZ9.out.free 0 (by simp [Z11]); have c1 := HZ9.out.cell 1 rfl; have f1 := HZ9.out.free 1 (by simp [Z11]); have c2 := HZ9.out.cell 2 rfl; have f2 := HZ9.out.free 2 (by simp [Z11]); have c3 := HZ9.out.cell 3 rfl; have f3 := HZ9.out.free 3 (by simp [Z11]); have c4 := HZ9.out.cell 4 rfl; have f4 := HZ9.out.free 4 (by simp [Z11]); have c5 := HZ9.out.cell 5 rfl; have f5 := HZ9.out.free 5 (by simp [Z11]); have c6 := HZ9.out.cell 6 rfl; have f6 := HZ9.out.free 6 (by simp [Z11]); have c7 := HZ9.out.cell 7 rfl; have f7 := HZ9.out.free 7 (by simp [Z11]); have c8 := HZ9.out.cell 8 rfl; have f8 := HZ9.out.free 8 (by simp [Z11]); have c9 := HZ9.out.cell 9 rfl; have f9 := HZ9.out.free 9 (by simp [Z11]); have c10 := HZ9.out.cell 10 rfl; have f10 := HZ9.out.free 10 (by simp [Z11])
           unfold vE
           clear hF3 hR3 hT3 hB4))
      exact ct_fin2 Tryz.results74 rfl rfl ⟨HZL.out.1, Nat.lt_of_lt_of_le HZL.out.2 HB3.out.size⟩ (bel_tr HB2.out HB3.out) HZ9.out HR.out.1 HR.out.2.1 HR.out.2.2.1 HR.out.2.2.2
set_option maxRecDepth 100000 in
set_option maxHeartbeats 16000000 in
theorem as75 {S N : Nat → Prop} {e : Et} {v : Value} {w : World} (hg : w.cell? ⟨1, 0, none⟩ = some (rty 68)) (hv : EVAt S N w e v) (hS : ∀ x, S x → x < w.heap.size) (hr : rightE e = true) (hok : okS e) :
    Calls Tryz.prog 75 #[v] w (CLT (fa1 (hitK 10) false e).isSome ((fa1 (hitK 10) false e).getD Et.zero).k ((fa1 (hitK 10) false e).getD Et.zero).i ((fa1 (hitK 10) false e).getD Et.zero).c ((fa1 (hitK 10) false e).getD Et.zero).t ((fa1 (hitK 10) false e).getD Et.zero).b ((fa1 (hitK 10) false e).getD Et.zero).cs ((fa1 (hitK 10) false e).getD Et.zero).l w) := by
  obtain ⟨⟨hZ, hT⟩, hB, hsz⟩ := awb_facts w 110 #[.int .i64 0, .string ⟨#[]⟩]
  obtain ⟨z, hz⟩ : ∃ x, x = w.heap.size := ⟨_, rfl⟩
  obtain ⟨tb, htb⟩ : ∃ x, x = w.heap.size + 1 := ⟨_, rfl⟩
  have hlt := World.block_lt_of_cell? _ _ hg
  have hv1 : EVAt S (N1 tb) (awb w 110 #[.int .i64 0, .string ⟨#[]⟩]) e v := (hv.mono (N' := N1 tb) (fun x hx h => by unfold N1 at h; omega)).below hB (fun x hx h => by have := hS x hx; unfold N1 at h; omega)
  have hS1 : ∀ x, S x → x < (awb w 110 #[.int .i64 0, .string ⟨#[]⟩]).heap.size ∧ x ≠ tb := fun x hx => by have := hS x hx; omega
  have hg1 : (awb w 110 #[.int .i64 0, .string ⟨#[]⟩]).cell? ⟨1, 0, none⟩ = some (rty 68) := (World.cell?_of_block (a := ⟨1, 0, none⟩) (hB.block 1 hlt)).trans hg
  have HFK := Lib.hid (fun x (h : fa1 (hitK 10) false e = some x) => fa1_ok (hit := hitK 10) (gv := false) (by decide) hr hok h)
  have HS := Lib.hid hS1
  have HV := Lib.hid (And.intro hv1 hr)
  have HG := Lib.hid hg1
  have hfd := fun (h0 : e.k = 0) => fa1_zero (hit := hitK 10) (gv := false) h0
  have HAS := Lib.hid (fun (h1 : 1 ≤ e.k) (wx : World) (hgx : wx.cell? ⟨1, 0, none⟩ = some (rty 68)) (hvx : EVAt S (N1 tb) wx e v) (hTx : Blk wx tb [.int .i64 0, .string ⟨#[]⟩]) (hSx : ∀ x, S x → x < wx.heap.size ∧ x ≠ tb) => as66 aty110 at110 hgx hvx hr h1 hTx hSx)
  have hten := right_ten (k := e.k) (i := e.i) (c := e.c) (t := e.t) (b := e.b) (cs := e.cs) (kids := e.l) hr
  generalize fa1 (hitK 10) false e = fd at *
  clear hS hok hr hv hg hlt hv1 hS1 hg1
  have hmm := fun v w => made197 v w
  go_enter Tryz.func75, Tryz.ntmps75
  go_upto_region 2 with (fail)
  change Code.wp _ _ _ _ (awb w 110 #[.int .i64 0, .string ⟨#[]⟩])
  generalize awb w 110 #[.int .i64 0, .string ⟨#[]⟩] = w1 at *
  rw [← htb, ← hz]
  rw [← hz] at hZ
  rw [← htb] at hT
  have HZ := Lib.hid hZ
  have HT := Lib.hid hT
  have HB := Lib.hid hB
  have HLT := Lib.hid (show w.heap.size ≤ z ∧ z < tb ∧ tb < w1.heap.size ∧ w.heap.size ≤ tb from by omega)
  have hzn : z ≠ tb := by omega
  have hzn2 : tb ≠ z := by omega
  clear hZ hT hB hsz hz htb
  by_cases h0 : e.k = 0
  · have hv0 : v = .nilIface := by
      obtain ⟨bl, bn, bc, cl, cn, cc, l, n, cap, q, p, hve, _⟩ := HV.out.1
      rw [h0] at hve
      exact hve
    have HFD := Lib.hid (hfd h0)
    subst hv0
    clear hfd h0 hten
    have HZ9 := Lib.hid HZ.out
    have c0 := HZ9.out.cell 0 rfl; have f0 := HZ9.out.free 0 (by simp [Z11]); have c1 := HZ9.out.cell 1 rfl; have f1 := HZ9.out.free 1 (by simp [Z11]); have c2 := HZ9.out.cell 2 rfl; have f2 := HZ9.out.free 2 (by simp [Z11]); have c3 := HZ9.out.cell 3 rfl; have f3 := HZ9.out.free 3 (by simp [Z11]); have c4 := HZ9.out.cell 4 rfl; have f4 := HZ9.out.free 4 (by simp [Z11]); have c5 := HZ9.out.cell 5 rfl; have f5 := HZ9.out.free 5 (by simp [Z11]); have c6 := HZ9.out.cell 6 rfl; have f6 := HZ9.out.free 6 (by simp [Z11]); have c7 := HZ9.out.cell 7 rfl; have f7 := HZ9.out.free 7 (by simp [Z11]); have c8 := HZ9.out.cell 8 rfl; have f8 := HZ9.out.free 8 (by simp [Z11]); have c9 := HZ9.out.cell 9 rfl; have f9 := HZ9.out.free 9 (by simp [Z11]); have c10 := HZ9.out.cell 10 rfl; have f10 := HZ9.out.free 10 (by simp [Z11])
    go_wp2_with (go_at_call 66; (with_reducible refine (as66n _ _).mono ?_); rintro r2 w2 ⟨rfl, hw2⟩; subst w2)
    rw [HFD.out]
    exact ct_fin2 (f := false) (kids := .nil) (k := 0) (i := 0) (c := 0) (t := []) (b := Dt.zero) (cs := []) (bl := none) (bn := 0) (bc := 0) (cl := none) (cn := 0) (cc := 0) (l := none) (n := 0) (cap := 0) (vs := []) (w2 := w1) Tryz.results75 rfl rfl ⟨HLT.out.1, by have := HLT.out; omega⟩ HB.out HZ9.out (FoAt.nil _ _) (Row.nil _ _ _) ⟨Row.nil _ _ _, rfl⟩ (Below.refl _ _)
  · have HC := Lib.hid (HAS.out (by omega) w1 HG.out HV.out.1 HT.out HS.out)
    clear HAS hfd h0 hten
    cases fd with
    | none =>
      go_upto_region 3 with (go_at_call 66; (with_reducible refine HC.out.mono ?_); intro r2 w2 hI; obtain ⟨rfl, hB2⟩ := ASP.no hI; have HB2 := Lib.hid hB2; have HZ9 := Lib.hid (HZ.out.below hB2); clear hI hB2)
      have c0 := HZ9.out.cell 0 rfl; have f0 := HZ9.out.free 0 (by simp [Z11]); have c1 := HZ9.out.cell 1 rfl; have f1 := HZ9.out.free 1 (by simp [Z11]); have c2 := HZ9.out.cell 2 rfl; have f2 := HZ9.out.free 2 (by simp [Z11]); have c3 := HZ9.out.cell 3 rfl; have f3 := HZ9.out.free 3 (by simp [Z11]); have c4 := HZ9.out.cell 4 rfl; have f4 := HZ9.out.free 4 (by simp [Z11]); have c5 := HZ9.out.cell 5 rfl; have f5 := HZ9.out.free 5 (by simp [Z11]); have c6 := HZ9.out.cell 6 rfl; have f6 := HZ9.out.free 6 (by simp [Z11]); have c7 := HZ9.out.cell 7 rfl; have f7 := HZ9.out.free 7 (by simp [Z11]); have c8 := HZ9.out.cell 8 rfl; have f8 := HZ9.out.free 8 (by simp [Z11]); have c9 := HZ9.out.cell 9 rfl; have f9 := HZ9.out.free 9 (by simp [Z11]); have c10 := HZ9.out.cell 10 rfl; have f10 := HZ9.out.free 10 (by simp [Z11])
      go_wp2_with fail
      exact ct_fin2 (f := false) (kids := .nil) (k := 0) (i := 0) (c := 0) (t := []) (b := Dt.zero) (cs := []) (bl := none) (bn := 0) (bc := 0) (cl := none) (cn := 0) (cc := 0) (l := none) (n := 0) (cap := 0) (vs := []) (w2 := w2) Tryz.results75 rfl rfl ⟨HLT.out.1, by have := HLT.out; have := HB2.out.size; omega⟩ (bel_tr HB.out HB2.out) HZ9.out (FoAt.nil _ _) (Row.nil _ _ _) ⟨Row.nil _ _ _, rfl⟩ (Below.refl _ _)
    | some x =>
      go_upto_region 4 with (go_at_call 66; (with_reducible refine HC.out.mono ?_); intro r2 w2 hI; obtain ⟨rfl, hK2, hX2⟩ := ASP.yes hI; have HX2 := Lib.hid hX2; have HK2 := Lib.hid hK2; clear hI hK2 hX2)
      obtain ⟨v2, hev, hXX⟩ := HX2.out
      have hxo := HFK.out x (by first | rfl | trivial)
      obtain ⟨hr2, hok2, hh, h12⟩ := hxo
      have hB2 : Below w.heap.size w w2 := HB.out.trans (HK2.out.below HB.out.size (fun y hy e => by have := HLT.out; unfold N1 at e; omega))
      have hZ2 := HZ.out.keep HK2.out (fun e => by unfold N1 at e; have := HLT.out; omega)
      have hxk : x.k = 10 := by
        have h9 := right_ten (k := x.k) (i := x.i) (c := x.c) (t := x.t) (b := x.b) (cs := x.cs) (kids := x.l) hr2
        have h8 : ktM x.k = ktM 10 := of_decide_eq_true hh
        unfold ktM at h8
        split at h8 <;> simp at h8 <;> omega
      obtain ⟨y, hy, hy1, _, _, _, HMD⟩ := madeAll hev hr2 h12
      have hyv := hy1 (.inr hxk)
      have hyt : dyn x.k = 110 := by rw [hxk]; rfl
      rw [hyt] at hy HMD
      subst hy
      subst hyv
      have q0 := hXX.cell 0 rfl
      have q1 := hXX.cell 1 rfl
      have HZ2 := Lib.hid hZ2
      have HB2 := Lib.hid hB2
      have HS2 := Lib.hid (show ∀ q, S q → q < w2.heap.size from fun q hq => Nat.lt_of_lt_of_le (HS.out q hq).1 HK2.out.size)
      have HZL := Lib.hid (show w.heap.size ≤ z ∧ z < w2.heap.size from ⟨HLT.out.1, by have := HLT.out; have := HK2.out.size; omega⟩)
      have HMD2 : Calls Tryz.prog 197 #[.agg #[.int .i64 x.c, .string ⟨x.t.toArray⟩]] w2 (MD S x.k x.i x.c x.t x.b x.cs x.l w2) := HMD w2 (Below.refl _ _)
      clear HMD
      have HMD := Lib.hid HMD2
      clear HMD2
      have HOK := Lib.hid hok2
      obtain ⟨k, i, c, t, b, cs, kids⟩ := x
      dsimp only at HMD HOK
      clear hev hXX hr2 hok2 hh h12 hB2 hZ2 hxk hyt hy1 HX2 HC
      go_wp2_with (first
        | (go_at_call 197; (with_reducible refine HMD.out.mono ?_); intro r3 w3 hmd; obtain ⟨bl, bn, bc, cl, cn, cc, l, n, cap, rfl, hE3, hB3⟩ := hmd
           have HB3 := Lib.hid hB3
           have HC3 := Lib.hid (ecloneG kids k i c t b cs bl bn bc cl cn cc l n cap S w3 hE3 (fun x hx => Nat.lt_of_lt_of_le (HS2.out x hx) hB3.size) HOK.out.1 HOK.out.2.1 HOK.out.2.2.1 HOK.out.2.2.2)
           have HZ3 := Lib.hid (HZ2.out.below hB3)
           unfold vE at HC3 ⊢
           clear hE3 hB3)
        | (go_at_call 57; (with_reducible refine HC3.out.mono ?_); intro r4 w4 hcl; obtain ⟨bl3, bn3, bc3, cl3, cn3, cc3, l3, n3, cap3, vs3, rfl, hF3, hR3, hT3, hB4⟩ := hcl
           have HZ9 := Lib.hid (HZ3.out.below hB4)
           have HR := Lib.hid (And.intro hF3 (And.intro hR3 (And.intro hT3 hB4)))
           have c0 := HZ9.out.cell 0 rfl; have f0 := HZ9.out.free 0 (by simp [Z11]); have c1 := HZ9.out.cell 1 rfl; have f1 := HZ9.out.free 1 (by simp [Z11]); have c2 := HZ9.out.cell 2 rfl; have f2 := HZ9.out.free 2 (by simp [Z11]); have c3 := HZ9.out.cell 3 rfl; have f3 := HZ9.out.free 3 (by simp [Z11]); have c4 := HZ9.out.cell 4 rfl; have f4 := HZ9.out.free 4 (by simp [Z11]); have c5 := HZ9.out.cell 5 rfl; have f5 := HZ9.out.free 5 (by simp [Z11]); have c6 := HZ9.out.cell 6 rfl; have f6 := HZ9.out.free 6 (by simp [Z11]); have c7 := HZ9.out.cell 7 rfl; have f7 := HZ9.out.free 7 (by simp [Z11]); have c8 := HZ9.out.cell 8 rfl; have f8 := HZ9.out.free 8 (by simp [Z11]); have c9 := HZ9.out.cell 9 rfl; have f9 := HZ9.out.free 9 (by simp [Z11]); have c10 := HZ9.out.cell 10 rfl; have f10 := HZ9.out.free 10 (by simp [Z11])
           unfold vE
           clear hF3 hR3 hT3 hB4))
      exact ct_fin2 Tryz.results75 rfl rfl ⟨HZL.out.1, Nat.lt_of_lt_of_le HZL.out.2 HB3.out.size⟩ (bel_tr HB2.out HB3.out) HZ9.out HR.out.1 HR.out.2.1 HR.out.2.2.1 HR.out.2.2.2
end Go.Proofs.YtbldidiibkcelaaGreatDoor

/-
  As (walk). Not a statement of the seat.
-/
namespace Go.Proofs.YtbldidiibkcelaaGreatDoor
open Go.RowKit

theorem fa_asL {m m2 : Int} {gv : Bool} (h1 : 1 ≤ m) (h2 : m ≤ 10) (h : ktM m = ktM m2) (hg : gv = decide (m = 1)) : ∀ f, faL (hitK m2) gv f = asL m f
  | .nil => rfl
  | .cons k i c t b cs ks rest => by
    rw [faL, asL, fa_asL h1 h2 h hg ks, fa_asL h1 h2 h hg rest]
    have e1 : (k = 0 ∨ m ≤ 0 ∨ 11 ≤ m) = (k = 0) := by apply propext; omega
    have e2 : (hitK m2 k = true) = (ktM k = ktM m) := by unfold hitK; rw [h]; simp
    have e3 : (k = 9 ∧ gv = true) = (k = 9 ∧ m = 1) := by rw [hg]; simp
    simp only [e1, e2, e3]
    rfl
theorem fa_as {m m2 : Int} {gv : Bool} (h1 : 1 ≤ m) (h2 : m ≤ 10) (h : ktM m = ktM m2) (hg : gv = decide (m = 1)) (e : Et) : fa1 (hitK m2) gv e = as1 m e := by
  unfold fa1 as1
  rw [fa_asL h1 h2 h hg e.l]
  have e1 : (e.k = 0 ∨ m ≤ 0 ∨ 11 ≤ m) = (e.k = 0) := by apply propext; omega
  have e2 : (hitK m2 e.k = true) = (ktM e.k = ktM m) := by unfold hitK; rw [h]; simp
  have e3 : (e.k = 9 ∧ gv = true) = (e.k = 9 ∧ m = 1) := by rw [hg]; simp
  simp only [e1, e2, e3]
theorem as1_off {m : Int} (h : m ≤ 0 ∨ 11 ≤ m) (e : Et) : as1 m e = none := by unfold as1; rw [if_pos (by omega)]
set_option maxRecDepth 100000 in
set_option maxHeartbeats 16000000 in
theorem as32 {S : Nat → Prop} {k i c : Int} {t : Bs} {b : Dt} {cs : List Int} {kids : Eo} {bl : Option Addr} {bn bc : Nat} {cl : Option Addr} {cn cc : Nat} {l : Option Addr} {n cap : Nat} {m : Int} {w : World} (hg : w.cell? ⟨1, 0, none⟩ = some (rty 68)) (hE : ErAt S w ⟨k, i, c, t, b, cs, kids⟩ bl bn bc cl cn cc l n cap) (hS : ∀ x, S x → x < w.heap.size) (hr : rightE ⟨k, i, c, t, b, cs, kids⟩ = true) (hok : okS ⟨k, i, c, t, b, cs, kids⟩) :
    Calls Tryz.prog 32 #[vE k i c t b bl bn bc cl cn cc l n cap, .int .i64 m] w (CLT (as1 m ⟨k, i, c, t, b, cs, kids⟩).isSome ((as1 m ⟨k, i, c, t, b, cs, kids⟩).getD Et.zero).k ((as1 m ⟨k, i, c, t, b, cs, kids⟩).getD Et.zero).i ((as1 m ⟨k, i, c, t, b, cs, kids⟩).getD Et.zero).c ((as1 m ⟨k, i, c, t, b, cs, kids⟩).getD Et.zero).t ((as1 m ⟨k, i, c, t, b, cs, kids⟩).getD Et.zero).b ((as1 m ⟨k, i, c, t, b, cs, kids⟩).getD Et.zero).cs ((as1 m ⟨k, i, c, t, b, cs, kids⟩).getD Et.zero).l w) := by
  obtain ⟨⟨hP, hZ⟩, hB, hsz⟩ := clw2_facts w k i c t b bl bn bc cl cn cc l n cap
  have hlt := World.block_lt_of_cell? _ _ hg
  have HEV := Lib.hid (fun (wx : World) (hx : Below w.heap.size w wx) => valueEV (N := fun _ => False) (hE.same (w' := wx) (fun x _ hl => hx.block x hl) (fun x hx2 _ => hx2)) (fun x h => h.elim))
  have HG := Lib.hid (fun (wx : World) (hx : Below w.heap.size w wx) => (World.cell?_of_block (a := ⟨1, 0, none⟩) (hx.block 1 hlt)).trans hg)
  have HS := Lib.hid hS
  have HRO := Lib.hid (And.intro hr hok)
  have HOFF := Lib.hid (fun h => as1_off (m := m) h ⟨k, i, c, t, b, cs, kids⟩)
  have HFA := Lib.hid (fun (m2 : Int) (gv : Bool) (h1 : 1 ≤ m) (h2 : m ≤ 10) (h : ktM m = ktM m2) (hg : gv = decide (m = 1)) => fa_as h1 h2 h hg ⟨k, i, c, t, b, cs, kids⟩)
  generalize as1 m ⟨k, i, c, t, b, cs, kids⟩ = fd at *
  unfold vE at HEV ⊢
  clear hE hS hr hok hg hlt
  go_enter Tryz.func32, Tryz.ntmps32
  go_upto_region 1 with (fail)
  change Code.wp _ _ _ _ (clw2 w k i c t b bl bn bc cl cn cc l n cap)
  generalize clw2 w k i c t b bl bn bc cl cn cc l n cap = w1 at *
  obtain ⟨z, hz⟩ : ∃ z, z = w.heap.size + 1 := ⟨_, rfl⟩
  obtain ⟨p, hp⟩ : ∃ q, q = w.heap.size := ⟨_, rfl⟩
  rw [← hp] at hP
  rw [← hz] at hZ
  rw [← hz, ← hp]
  have HB := Lib.hid hB
  have HZ := Lib.hid hZ
  have HLT := Lib.hid (show w.heap.size ≤ z ∧ z < w1.heap.size from by omega)
  have x0 := hP.cell 0 rfl
  have x1 := hP.cell 1 rfl
  have x2 := hP.cell 2 rfl
  have x3 := hP.cell 3 rfl
  have x4 := hP.cell 4 rfl
  have x5 := hP.cell 5 rfl
  have x6 := hP.cell 6 rfl
  have x7 := hP.cell 7 rfl
  have x8 := hP.cell 8 rfl
  have x9 := hP.cell 9 rfl
  have x10 := hP.cell 10 rfl
  clear hP hZ hB hsz hp hz
  go_upto_region 2 with (go_at_call 50; (with_reducible refine (HEV.out _ HB.out).mono ?_); intro r2 w2 h2; obtain ⟨v2, rfl, hv2, hB2⟩ := h2; have HV2 := Lib.hid hv2; have HB2 := Lib.hid (bel_tr HB.out hB2); have HZ2 := Lib.hid (HZ.out.below hB2); have HZL := Lib.hid (Nat.lt_of_lt_of_le HLT.out.2 hB2.size); clear hv2 hB2)
  have HS2 := Lib.hid (show ∀ x, S x → x < w2.heap.size from fun x hx => Nat.lt_of_lt_of_le (HS.out x hx) HB2.out.size)
  clear x0 x1 x2 x3 x4 x5 x6 x7 x8 x9 x10 HB HZ
  by_cases hm1 : m = 1
  · subst hm1
    have HC := Lib.hid (as67 (HG.out _ HB2.out) HV2.out HS2.out HRO.out.1 HRO.out.2)
    rw [HFA.out 1 true (by decide) (by decide) (by decide) (by decide)] at HC
    go_wp2_with (go_at_call 67; (with_reducible refine HC.out.mono ?_); intro r4 w4 h4; obtain ⟨v4, ⟨bl3, bn3, bc3, cl3, cn3, cc3, l3, n3, cap3, vs3, hv4, hF3, hR3, hT3, hB4⟩, rfl⟩ := h4; obtain rfl := Ending.returned.inj hv4; have HZ9 := Lib.hid (HZ2.out.below hB4); have HR := Lib.hid (And.intro hF3 (And.intro hR3 (And.intro hT3 hB4))); have c0 := HZ9.out.cell 0 rfl; have f0 := HZ9.out.free 0 (by simp [Z11]); have c1 := HZ9.out.cell 1 rfl; have f1 := HZ9.out.free 1 (by simp [Z11]); have c2 := HZ9.out.cell 2 rfl; have f2 := HZ9.out.free 2 (by simp [Z11]); have c3 := HZ9.out.cell 3 rfl; have f3 := HZ9.out.free 3 (by simp [Z11]); have c4 := HZ9.out.cell 4 rfl; have f4 := HZ9.out.free 4 (by simp [Z11]); have c5 := HZ9.out.cell 5 rfl; have f5 := HZ9.out.free 5 (by simp [Z11]); have c6 := HZ9.out.cell 6 rfl; have f6 := HZ9.out.free 6 (by simp [Z11]); have c7 := HZ9.out.cell 7 rfl; have f7 := HZ9.out.free 7 (by simp [Z11]); have c8 := HZ9.out.cell 8 rfl; have f8 := HZ9.out.free 8 (by simp [Z11]); have c9 := HZ9.out.cell 9 rfl; have f9 := HZ9.out.free 9 (by simp [Z11]); have c10 := HZ9.out.cell 10 rfl; have f10 := HZ9.out.free 10 (by simp [Z11]); unfold vE; clear hF3 hR3 hT3 hB4 hv4)
    exact ct_fin Tryz.results32 rfl rfl ⟨HLT.out.1, HZL.out⟩ HB2.out HZ9.out HR.out.1 HR.out.2.1 HR.out.2.2.1 HR.out.2.2.2
  by_cases hm2 : m = 2
  · subst hm2
    have HC := Lib.hid (as68 (HG.out _ HB2.out) HV2.out HS2.out HRO.out.1 HRO.out.2)
    rw [HFA.out 2 false (by decide) (by decide) (by decide) (by decide)] at HC
    go_wp2_with (go_at_call 68; (with_reducible refine HC.out.mono ?_); intro r4 w4 h4; obtain ⟨v4, ⟨bl3, bn3, bc3, cl3, cn3, cc3, l3, n3, cap3, vs3, hv4, hF3, hR3, hT3, hB4⟩, rfl⟩ := h4; obtain rfl := Ending.returned.inj hv4; have HZ9 := Lib.hid (HZ2.out.below hB4); have HR := Lib.hid (And.intro hF3 (And.intro hR3 (And.intro hT3 hB4))); have c0 := HZ9.out.cell 0 rfl; have f0 := HZ9.out.free 0 (by simp [Z11]); have c1 := HZ9.out.cell 1 rfl; have f1 := HZ9.out.free 1 (by simp [Z11]); have c2 := HZ9.out.cell 2 rfl; have f2 := HZ9.out.free 2 (by simp [Z11]); have c3 := HZ9.out.cell 3 rfl; have f3 := HZ9.out.free 3 (by simp [Z11]); have c4 := HZ9.out.cell 4 rfl; have f4 := HZ9.out.free 4 (by simp [Z11]); have c5 := HZ9.out.cell 5 rfl; have f5 := HZ9.out.free 5 (by simp [Z11]); have c6 := HZ9.out.cell 6 rfl; have f6 := HZ9.out.free 6 (by simp [Z11]); have c7 := HZ9.out.cell 7 rfl; have f7 := HZ9.out.free 7 (by simp [Z11]); have c8 := HZ9.out.cell 8 rfl; have f8 := HZ9.out.free 8 (by simp [Z11]); have c9 := HZ9.out.cell 9 rfl; have f9 := HZ9.out.free 9 (by simp [Z11]); have c10 := HZ9.out.cell 10 rfl; have f10 := HZ9.out.free 10 (by simp [Z11]); unfold vE; clear hF3 hR3 hT3 hB4 hv4)
    exact ct_fin Tryz.results32 rfl rfl ⟨HLT.out.1, HZL.out⟩ HB2.out HZ9.out HR.out.1 HR.out.2.1 HR.out.2.2.1 HR.out.2.2.2
  by_cases hm3 : m = 3
  · subst hm3
    have HC := Lib.hid (as69 (HG.out _ HB2.out) HV2.out HS2.out HRO.out.1 HRO.out.2)
    rw [HFA.out 3 false (by decide) (by decide) (by decide) (by decide)] at HC
    go_wp2_with (go_at_call 69; (with_reducible refine HC.out.mono ?_); intro r4 w4 h4; obtain ⟨v4, ⟨bl3, bn3, bc3, cl3, cn3, cc3, l3, n3, cap3, vs3, hv4, hF3, hR3, hT3, hB4⟩, rfl⟩ := h4; obtain rfl := Ending.returned.inj hv4; have HZ9 := Lib.hid (HZ2.out.below hB4); have HR := Lib.hid (And.intro hF3 (And.intro hR3 (And.intro hT3 hB4))); have c0 := HZ9.out.cell 0 rfl; have f0 := HZ9.out.free 0 (by simp [Z11]); have c1 := HZ9.out.cell 1 rfl; have f1 := HZ9.out.free 1 (by simp [Z11]); have c2 := HZ9.out.cell 2 rfl; have f2 := HZ9.out.free 2 (by simp [Z11]); have c3 := HZ9.out.cell 3 rfl; have f3 := HZ9.out.free 3 (by simp [Z11]); have c4 := HZ9.out.cell 4 rfl; have f4 := HZ9.out.free 4 (by simp [Z11]); have c5 := HZ9.out.cell 5 rfl; have f5 := HZ9.out.free 5 (by simp [Z11]); have c6 := HZ9.out.cell 6 rfl; have f6 := HZ9.out.free 6 (by simp [Z11]); have c7 := HZ9.out.cell 7 rfl; have f7 := HZ9.out.free 7 (by simp [Z11]); have c8 := HZ9.out.cell 8 rfl; have f8 := HZ9.out.free 8 (by simp [Z11]); have c9 := HZ9.out.cell 9 rfl; have f9 := HZ9.out.free 9 (by simp [Z11]); have c10 := HZ9.out.cell 10 rfl; have f10 := HZ9.out.free 10 (by simp [Z11]); unfold vE; clear hF3 hR3 hT3 hB4 hv4)
    exact ct_fin Tryz.results32 rfl rfl ⟨HLT.out.1, HZL.out⟩ HB2.out HZ9.out HR.out.1 HR.out.2.1 HR.out.2.2.1 HR.out.2.2.2
  by_cases hm4 : m = 4
  · subst hm4
    have HC := Lib.hid (as70 (HG.out _ HB2.out) HV2.out HS2.out HRO.out.1 HRO.out.2)
    rw [HFA.out 4 false (by decide) (by decide) (by decide) (by decide)] at HC
    go_wp2_with (go_at_call 70; (with_reducible refine HC.out.mono ?_); intro r4 w4 h4; obtain ⟨v4, ⟨bl3, bn3, bc3, cl3, cn3, cc3, l3, n3, cap3, vs3, hv4, hF3, hR3, hT3, hB4⟩, rfl⟩ := h4; obtain rfl := Ending.returned.inj hv4; have HZ9 := Lib.hid (HZ2.out.below hB4); have HR := Lib.hid (And.intro hF3 (And.intro hR3 (And.intro hT3 hB4))); have c0 := HZ9.out.cell 0 rfl; have f0 := HZ9.out.free 0 (by simp [Z11]); have c1 := HZ9.out.cell 1 rfl; have f1 := HZ9.out.free 1 (by simp [Z11]); have c2 := HZ9.out.cell 2 rfl; have f2 := HZ9.out.free 2 (by simp [Z11]); have c3 := HZ9.out.cell 3 rfl; have f3 := HZ9.out.free 3 (by simp [Z11]); have c4 := HZ9.out.cell 4 rfl; have f4 := HZ9.out.free 4 (by simp [Z11]); have c5 := HZ9.out.cell 5 rfl; have f5 := HZ9.out.free 5 (by simp [Z11]); have c6 := HZ9.out.cell 6 rfl; have f6 := HZ9.out.free 6 (by simp [Z11]); have c7 := HZ9.out.cell 7 rfl; have f7 := HZ9.out.free 7 (by simp [Z11]); have c8 := HZ9.out.cell 8 rfl; have f8 := HZ9.out.free 8 (by simp [Z11]); have c9 := HZ9.out.cell 9 rfl; have f9 := HZ9.out.free 9 (by simp [Z11]); have c10 := HZ9.out.cell 10 rfl; have f10 := HZ9.out.free 10 (by simp [Z11]); unfold vE; clear hF3 hR3 hT3 hB4 hv4)
    exact ct_fin Tryz.results32 rfl rfl ⟨HLT.out.1, HZL.out⟩ HB2.out HZ9.out HR.out.1 HR.out.2.1 HR.out.2.2.1 HR.out.2.2.2
  by_cases hm5 : m = 5
  · subst hm5
    have HC := Lib.hid (as71 (HG.out _ HB2.out) HV2.out HS2.out HRO.out.1 HRO.out.2)
    rw [HFA.out 5 false (by decide) (by decide) (by decide) (by decide)] at HC
    go_wp2_with (go_at_call 71; (with_reducible refine HC.out.mono ?_); intro r4 w4 h4; obtain ⟨v4, ⟨bl3, bn3, bc3, cl3, cn3, cc3, l3, n3, cap3, vs3, hv4, hF3, hR3, hT3, hB4⟩, rfl⟩ := h4; obtain rfl := Ending.returned.inj hv4; have HZ9 := Lib.hid (HZ2.out.below hB4); have HR := Lib.hid (And.intro hF3 (And.intro hR3 (And.intro hT3 hB4))); have c0 := HZ9.out.cell 0 rfl; have f0 := HZ9.out.free 0 (by simp [Z11]); have c1 := HZ9.out.cell 1 rfl; have f1 := HZ9.out.free 1 (by simp [Z11]); have c2 := HZ9.out.cell 2 rfl; have f2 := HZ9.out.free 2 (by simp [Z11]); have c3 := HZ9.out.cell 3 rfl; have f3 := HZ9.out.free 3 (by simp [Z11]); have c4 := HZ9.out.cell 4 rfl; have f4 := HZ9.out.free 4 (by simp [Z11]); have c5 := HZ9.out.cell 5 rfl; have f5 := HZ9.out.free 5 (by simp [Z11]); have c6 := HZ9.out.cell 6 rfl; have f6 := HZ9.out.free 6 (by simp [Z11]); have c7 := HZ9.out.cell 7 rfl; have f7 := HZ9.out.free 7 (by simp [Z11]); have c8 := HZ9.out.cell 8 rfl; have f8 := HZ9.out.free 8 (by simp [Z11]); have c9 := HZ9.out.cell 9 rfl; have f9 := HZ9.out.free 9 (by simp [Z11]); have c10 := HZ9.out.cell 10 rfl; have f10 := HZ9.out.free 10 (by simp [Z11]); unfold vE; clear hF3 hR3 hT3 hB4 hv4)
    exact ct_fin Tryz.results32 rfl rfl ⟨HLT.out.1, HZL.out⟩ HB2.out HZ9.out HR.out.1 HR.out.2.1 HR.out.2.2.1 HR.out.2.2.2
  by_cases hm6 : m = 6
  · subst hm6
    have HC := Lib.hid (as72 (HG.out _ HB2.out) HV2.out HS2.out HRO.out.1 HRO.out.2)
    rw [HFA.out 6 false (by decide) (by decide) (by decide) (by decide)] at HC
    go_wp2_with (go_at_call 72; (with_reducible refine HC.out.mono ?_); intro r4 w4 h4; obtain ⟨v4, ⟨bl3, bn3, bc3, cl3, cn3, cc3, l3, n3, cap3, vs3, hv4, hF3, hR3, hT3, hB4⟩, rfl⟩ := h4; obtain rfl := Ending.returned.inj hv4; have HZ9 := Lib.hid (HZ2.out.below hB4); have HR := Lib.hid (And.intro hF3 (And.intro hR3 (And.intro hT3 hB4))); have c0 := HZ9.out.cell 0 rfl; have f0 := HZ9.out.free 0 (by simp [Z11]); have c1 := HZ9.out.cell 1 rfl; have f1 := HZ9.out.free 1 (by simp [Z11]); have c2 := HZ9.out.cell 2 rfl; have f2 := HZ9.out.free 2 (by simp [Z11]); have c3 := HZ9.out.cell 3 rfl; have f3 := HZ9.out.free 3 (by simp [Z11]); have c4 := HZ9.out.cell 4 rfl; have f4 := HZ9.out.free 4 (by simp [Z11]); have c5 := HZ9.out.cell 5 rfl; have f5 := HZ9.out.free 5 (by simp [Z11]); have c6 := HZ9.out.cell 6 rfl; have f6 := HZ9.out.free 6 (by simp [Z11]); have c7 := HZ9.out.cell 7 rfl; have f7 := HZ9.out.free 7 (by simp [Z11]); have c8 := HZ9.out.cell 8 rfl; have f8 := HZ9.out.free 8 (by simp [Z11]); have c9 := HZ9.out.cell 9 rfl; have f9 := HZ9.out.free 9 (by simp [Z11]); have c10 := HZ9.out.cell 10 rfl; have f10 := HZ9.out.free 10 (by simp [Z11]); unfold vE; clear hF3 hR3 hT3 hB4 hv4)
    exact ct_fin Tryz.results32 rfl rfl ⟨HLT.out.1, HZL.out⟩ HB2.out HZ9.out HR.out.1 HR.out.2.1 HR.out.2.2.1 HR.out.2.2.2
  by_cases hm7 : m = 7
  · subst hm7
    have HC := Lib.hid (as68 (HG.out _ HB2.out) HV2.out HS2.out HRO.out.1 HRO.out.2)
    rw [HFA.out 2 false (by decide) (by decide) (by decide) (by decide)] at HC
    go_wp2_with (go_at_call 68; (with_reducible refine HC.out.mono ?_); intro r4 w4 h4; obtain ⟨v4, ⟨bl3, bn3, bc3, cl3, cn3, cc3, l3, n3, cap3, vs3, hv4, hF3, hR3, hT3, hB4⟩, rfl⟩ := h4; obtain rfl := Ending.returned.inj hv4; have HZ9 := Lib.hid (HZ2.out.below hB4); have HR := Lib.hid (And.intro hF3 (And.intro hR3 (And.intro hT3 hB4))); have c0 := HZ9.out.cell 0 rfl; have f0 := HZ9.out.free 0 (by simp [Z11]); have c1 := HZ9.out.cell 1 rfl; have f1 := HZ9.out.free 1 (by simp [Z11]); have c2 := HZ9.out.cell 2 rfl; have f2 := HZ9.out.free 2 (by simp [Z11]); have c3 := HZ9.out.cell 3 rfl; have f3 := HZ9.out.free 3 (by simp [Z11]); have c4 := HZ9.out.cell 4 rfl; have f4 := HZ9.out.free 4 (by simp [Z11]); have c5 := HZ9.out.cell 5 rfl; have f5 := HZ9.out.free 5 (by simp [Z11]); have c6 := HZ9.out.cell 6 rfl; have f6 := HZ9.out.free 6 (by simp [Z11]); have c7 := HZ9.out.cell 7 rfl; have f7 := HZ9.out.free 7 (by simp [Z11]); have c8 := HZ9.out.cell 8 rfl; have f8 := HZ9.out.free 8 (by simp [Z11]); have c9 := HZ9.out.cell 9 rfl; have f9 := HZ9.out.free 9 (by simp [Z11]); have c10 := HZ9.out.cell 10 rfl; have f10 := HZ9.out.free 10 (by simp [Z11]); unfold vE; clear hF3 hR3 hT3 hB4 hv4)
    exact ct_fin Tryz.results32 rfl rfl ⟨HLT.out.1, HZL.out⟩ HB2.out HZ9.out HR.out.1 HR.out.2.1 HR.out.2.2.1 HR.out.2.2.2
  by_cases hm8 : m = 8
  · subst hm8
    have HC := Lib.hid (as73 (HG.out _ HB2.out) HV2.out HS2.out HRO.out.1 HRO.out.2)
    rw [HFA.out 8 false (by decide) (by decide) (by decide) (by decide)] at HC
    go_wp2_with (go_at_call 73; (with_reducible refine HC.out.mono ?_); intro r4 w4 h4; obtain ⟨v4, ⟨bl3, bn3, bc3, cl3, cn3, cc3, l3, n3, cap3, vs3, hv4, hF3, hR3, hT3, hB4⟩, rfl⟩ := h4; obtain rfl := Ending.returned.inj hv4; have HZ9 := Lib.hid (HZ2.out.below hB4); have HR := Lib.hid (And.intro hF3 (And.intro hR3 (And.intro hT3 hB4))); have c0 := HZ9.out.cell 0 rfl; have f0 := HZ9.out.free 0 (by simp [Z11]); have c1 := HZ9.out.cell 1 rfl; have f1 := HZ9.out.free 1 (by simp [Z11]); have c2 := HZ9.out.cell 2 rfl; have f2 := HZ9.out.free 2 (by simp [Z11]); have c3 := HZ9.out.cell 3 rfl; have f3 := HZ9.out.free 3 (by simp [Z11]); have c4 := HZ9.out.cell 4 rfl; have f4 := HZ9.out.free 4 (by simp [Z11]); have c5 := HZ9.out.cell 5 rfl; have f5 := HZ9.out.free 5 (by simp [Z11]); have c6 := HZ9.out.cell 6 rfl; have f6 := HZ9.out.free 6 (by simp [Z11]); have c7 := HZ9.out.cell 7 rfl; have f7 := HZ9.out.free 7 (by simp [Z11]); have c8 := HZ9.out.cell 8 rfl; have f8 := HZ9.out.free 8 (by simp [Z11]); have c9 := HZ9.out.cell 9 rfl; have f9 := HZ9.out.free 9 (by simp [Z11]); have c10 := HZ9.out.cell 10 rfl; have f10 := HZ9.out.free 10 (by simp [Z11]); unfold vE; clear hF3 hR3 hT3 hB4 hv4)
    exact ct_fin Tryz.results32 rfl rfl ⟨HLT.out.1, HZL.out⟩ HB2.out HZ9.out HR.out.1 HR.out.2.1 HR.out.2.2.1 HR.out.2.2.2
  by_cases hm9 : m = 9
  · subst hm9
    have HC := Lib.hid (as74 (HG.out _ HB2.out) HV2.out HS2.out HRO.out.1 HRO.out.2)
    rw [HFA.out 9 false (by decide) (by decide) (by decide) (by decide)] at HC
    go_wp2_with (go_at_call 74; (with_reducible refine HC.out.mono ?_); intro r4 w4 h4; obtain ⟨v4, ⟨bl3, bn3, bc3, cl3, cn3, cc3, l3, n3, cap3, vs3, hv4, hF3, hR3, hT3, hB4⟩, rfl⟩ := h4; obtain rfl := Ending.returned.inj hv4; have HZ9 := Lib.hid (HZ2.out.below hB4); have HR := Lib.hid (And.intro hF3 (And.intro hR3 (And.intro hT3 hB4))); have c0 := HZ9.out.cell 0 rfl; have f0 := HZ9.out.free 0 (by simp [Z11]); have c1 := HZ9.out.cell 1 rfl; have f1 := HZ9.out.free 1 (by simp [Z11]); have c2 := HZ9.out.cell 2 rfl; have f2 := HZ9.out.free 2 (by simp [Z11]); have c3 := HZ9.out.cell 3 rfl; have f3 := HZ9.out.free 3 (by simp [Z11]); have c4 := HZ9.out.cell 4 rfl; have f4 := HZ9.out.free 4 (by simp [Z11]); have c5 := HZ9.out.cell 5 rfl; have f5 := HZ9.out.free 5 (by simp [Z11]); have c6 := HZ9.out.cell 6 rfl; have f6 := HZ9.out.free 6 (by simp [Z11]); have c7 := HZ9.out.cell 7 rfl; have f7 := HZ9.out.free 7 (by simp [Z11]); have c8 := HZ9.out.cell 8 rfl; have f8 := HZ9.out.free 8 (by simp [Z11]); have c9 := HZ9.out.cell 9 rfl; have f9 := HZ9.out.free 9 (by simp [Z11]); have c10 := HZ9.out.cell 10 rfl; have f10 := HZ9.out.free 10 (by simp [Z11]); unfold vE; clear hF3 hR3 hT3 hB4 hv4)
    exact ct_fin Tryz.results32 rfl rfl ⟨HLT.out.1, HZL.out⟩ HB2.out HZ9.out HR.out.1 HR.out.2.1 HR.out.2.2.1 HR.out.2.2.2
  by_cases hm10 : m = 10
  · subst hm10
    have HC := Lib.hid (as75 (HG.out _ HB2.out) HV2.out HS2.out HRO.out.1 HRO.out.2)
    rw [HFA.out 10 false (by decide) (by decide) (by decide) (by decide)] at HC
    go_wp2_with (go_at_call 75; (with_reducible refine HC.out.mono ?_); intro r4 w4 h4; obtain ⟨v4, ⟨bl3, bn3, bc3, cl3, cn3, cc3, l3, n3, cap3, vs3, hv4, hF3, hR3, hT3, hB4⟩, rfl⟩ := h4; obtain rfl := Ending.returned.inj hv4; have HZ9 := Lib.hid (HZ2.out.below hB4); have HR := Lib.hid (And.intro hF3 (And.intro hR3 (And.intro hT3 hB4))); have c0 := HZ9.out.cell 0 rfl; have f0 := HZ9.out.free 0 (by simp [Z11]); have c1 := HZ9.out.cell 1 rfl; have f1 := HZ9.out.free 1 (by simp [Z11]); have c2 := HZ9.out.cell 2 rfl; have f2 := HZ9.out.free 2 (by simp [Z11]); have c3 := HZ9.out.cell 3 rfl; have f3 := HZ9.out.free 3 (by simp [Z11]); have c4 := HZ9.out.cell 4 rfl; have f4 := HZ9.out.free 4 (by simp [Z11]); have c5 := HZ9.out.cell 5 rfl; have f5 := HZ9.out.free 5 (by simp [Z11]); have c6 := HZ9.out.cell 6 rfl; have f6 := HZ9.out.free 6 (by simp [Z11]); have c7 := HZ9.out.cell 7 rfl; have f7 := HZ9.out.free 7 (by simp [Z11]); have c8 := HZ9.out.cell 8 rfl; have f8 := HZ9.out.free 8 (by simp [Z11]); have c9 := HZ9.out.cell 9 rfl; have f9 := HZ9.out.free 9 (by simp [Z11]); have c10 := HZ9.out.cell 10 rfl; have f10 := HZ9.out.free 10 (by simp [Z11]); unfold vE; clear hF3 hR3 hT3 hB4 hv4)
    exact ct_fin Tryz.results32 rfl rfl ⟨HLT.out.1, HZL.out⟩ HB2.out HZ9.out HR.out.1 HR.out.2.1 HR.out.2.2.1 HR.out.2.2.2
  have HFD := Lib.hid (HOFF.out (by omega))
  have HZ9 := Lib.hid HZ2.out
  have c0 := HZ9.out.cell 0 rfl; have f0 := HZ9.out.free 0 (by simp [Z11]); have c1 := HZ9.out.cell 1 rfl; have f1 := HZ9.out.free 1 (by simp [Z11]); have c2 := HZ9.out.cell 2 rfl; have f2 := HZ9.out.free 2 (by simp [Z11]); have c3 := HZ9.out.cell 3 rfl; have f3 := HZ9.out.free 3 (by simp [Z11]); have c4 := HZ9.out.cell 4 rfl; have f4 := HZ9.out.free 4 (by simp [Z11]); have c5 := HZ9.out.cell 5 rfl; have f5 := HZ9.out.free 5 (by simp [Z11]); have c6 := HZ9.out.cell 6 rfl; have f6 := HZ9.out.free 6 (by simp [Z11]); have c7 := HZ9.out.cell 7 rfl; have f7 := HZ9.out.free 7 (by simp [Z11]); have c8 := HZ9.out.cell 8 rfl; have f8 := HZ9.out.free 8 (by simp [Z11]); have c9 := HZ9.out.cell 9 rfl; have f9 := HZ9.out.free 9 (by simp [Z11]); have c10 := HZ9.out.cell 10 rfl; have f10 := HZ9.out.free 10 (by simp [Z11])
  go_wp2_with fail
  rw [HFD.out]
  exact ct_fin (f := false) (kids := .nil) (k := 0) (i := 0) (c := 0) (t := []) (b := Dt.zero) (cs := []) (bl := none) (bn := 0) (bc := 0) (cl := none) (cn := 0) (cc := 0) (l := none) (n := 0) (cap := 0) (vs := []) (w2 := w2) Tryz.results32 rfl rfl ⟨HLT.out.1, HZL.out⟩ HB2.out HZ9.out (FoAt.nil _ _) (Row.nil _ _ _) ⟨Row.nil _ _ _, rfl⟩ (Below.refl _ _)
end Go.Proofs.YtbldidiibkcelaaGreatDoor

