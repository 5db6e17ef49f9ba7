/-
  The walk of the source's read (the code's). Not a statement of the seat.
-/
import Derived.Test.YtigfgdefgnahpaaDoorWrite
import Derived.StillTailTactics
import Derived.Laws.CopyOwn
namespace Go.Proofs.YtigfgdefgnahpaaDoor
open Go.RowKit

/-- the innermost source, in the block fs (owner 0); what is left of its data belongs to 30 -/
def SrcAt (w : World) (r : Own) (fs : Nat) (wr : Bool) (s : Sc) : Prop :=
  ∃ dv sa sn sc wv la ln lc, r fs = some 0 ∧ Blk w fs [dv, .slice sa sn sc, .bool s.early, .bool s.broken, .bool wr, wv, .slice la ln lc, .int .i64 s.k] ∧
    RdK w r none 1 sa sn sc (I3 s.sizes) ∧ RdK w r (some 30) 1 la ln lc (B8 (s.data.drop s.pos))
theorem SrcAt.step {K : Nat → Prop} {w w' : World} {r r' : Own} {fs : Nat} {wr : Bool} {s : Sc} (h : SrcAt w r fs wr s) (g : Step K w r w' r') (h0 : ¬ K 0) (h30 : ¬ K 30) : SrcAt w' r' fs wr s := by
  obtain ⟨dv, sa, sn, sc, wv, la, ln, lc, h1, h2, h3, h4⟩ := h
  exact ⟨dv, sa, sn, sc, wv, la, ln, lc, g.oldK h2.lt h1, h2.step g h1 h0, h3.step g (fun k hk => by cases hk), h4.step g (fun k hk => by cases hk; exact h30)⟩

/-- the cells of p's block ahead of p are as they were -/
def Ahead (w w' : World) (a : Option Addr) : Prop := ∀ b off, a = some ⟨b, off, none⟩ → ∀ j, j < off → w'.cell? ⟨b, j, none⟩ = w.cell? ⟨b, j, none⟩ ∧ w'.frozen? ⟨b, j, none⟩ = w.frozen? ⟨b, j, none⟩
theorem Ahead.refl (w : World) (a : Option Addr) : Ahead w w a := fun _ _ _ _ _ => ⟨rfl, rfl⟩
theorem Ahead.trans {w w1 w2 : World} {a : Option Addr} (h : Ahead w w1 a) (g : Ahead w1 w2 a) : Ahead w w2 a := fun b off ha j hj =>
  ⟨(g b off ha j hj).1.trans (h b off ha j hj).1, (g b off ha j hj).2.trans (h b off ha j hj).2⟩
theorem Ahead.same {w w' : World} {a : Option Addr} (h : ∀ b, blockOf a = some b → w'.heap[b]? = w.heap[b]?) : Ahead w w' a := fun b off ha j _ =>
  ⟨World.cell?_of_block (a := ⟨b, j, none⟩) (h b (by rw [ha]; rfl)), World.frozen?_of_block (a := ⟨b, j, none⟩) (h b (by rw [ha]; rfl))⟩
/-- behind a step that leaves p's owner alone -/
theorem Ahead.step {K : Nat → Prop} {w w' : World} {r r' : Own} {q sz : Nat} {a : Option Addr} {n cap : Nat} {xs : List Value} (h : RowK w r q sz a n cap xs) (g : Step K w r w' r') (hk : ¬ K q) : Ahead w w' a :=
  Ahead.same (fun b hb => g.keep b (h.1.lt b hb).2 (fun j hj => by rw [h.2 b hb] at hj; cases hj; exact hk))

/-- behind a reading of n bytes into p -/
def ReadInto (s : Sc) (n : Nat) (w : World) (w' : World) (r' : Own) (q : Nat) (pa : Option Addr) (pn pc : Nat) : Prop :=
  (∃ xs, RowK w' r' q 1 pa pn pc xs ∧ xs.take n = B8 ((s.data.drop s.pos).take n)) ∧ Ahead w w' pa

def SrcReadP (fs : Nat) (wr : Bool) (s : Sc) (m q : Nat) (pa : Option Addr) (pc : Nat) (v : Value) (w : World) (r : Own) (e : Ending) (w' : World) : Prop :=
  e = .returned v ∧ Step (fun k => k = 0 ∨ k = q) w r w' r ∧ SrcAt w' r fs wr (s.next m) ∧ ReadInto s (s.gives m) w w' r q pa m pc

/-- copy onto a row: its first cells are the source's -/
theorem run_copy_onto {P : Program} (dT sT ty elem : TypeId) (hu : P.underlying dT = some (.slice elem)) (hs : (P.info? elem).map (·.size) = some 1) {w : World} {B : Nat} {d a : Option Addr} {dn dc k n c g : Nat} {xs ys : List Value}
    (hd : Row B w 1 d dn dc xs) (hk : k ≤ dn) (ha : Rd w 1 a n c ys) (hg : Nat.min n k = g) (h1 : ∀ v ∈ ys, v.oneCell' = true) :
    ∃ w', (Builtin.copy_ #[dT, sT] ty #[.slice d k dc, .slice a n c]).run P w = .ok (goInt g) w' ∧ Row B w' 1 d dn dc (ys.take g ++ xs.drop g) ∧ w.grownBy w' (blockOf d) ∧ w'.heap.size = w.heap.size ∧ Ahead w w' d := by
  obtain ⟨d1, d2, d3, d4⟩ := hd
  obtain ⟨a1, a2, a3, a4⟩ := ha
  subst hg
  by_cases h0 : Nat.min n k = 0
  · refine ⟨w, by rw [run_copy_none w dT sT ty elem d a k dc n c hu hs h0, h0]; rfl, ?_, grownBy_refl _ _, rfl, Ahead.refl _ _⟩
    rw [h0, List.take_zero, List.nil_append, List.drop_zero]
    exact ⟨d1, d2, d3, d4⟩
  · have hm1 : Nat.min n k ≤ n := Nat.min_le_left _ _
    have hm2 : Nat.min n k ≤ k := Nat.min_le_right _ _
    generalize hgg : Nat.min n k = g at *
    rcases d4 with ⟨_, d5⟩ | ⟨b, o, rfl, hB, hb, hc, hsp⟩
    · omega
    · rcases a4 with ⟨a5, _⟩ | ⟨b', o', rfl, hb', hc'⟩
      · omega
      · have hl : (ys.take g).length = g := by rw [List.length_take]; omega
        have hok : ∀ j, j < (ys.take g).length → (w.cell? ⟨b, o + j, none⟩).isSome = true ∧ w.frozen? ⟨b, o + j, none⟩ = false := fun j hj => hsp j (by omega)
        have hr := run_copy_cells (P := P) w dT sT ty elem b o k dc ⟨b', o', none⟩ n c (ys.take g) hu hs (by rw [hl]; exact hgg.symm)
          (fun j v hj => by
            have hjl := (List.getElem?_eq_some_iff.1 hj).1
            rw [hl] at hjl
            rw [Addr.add_lit, hc' j (by omega)]
            rw [List.getElem?_take, if_pos hjl] at hj
            exact hj) (fun j hj => (hok j hj).1) (fun j hj => (hok j hj).2) (fun v hv => h1 v (List.mem_of_mem_take hv))
        rw [hl] at hr
        refine ⟨_, hr, ⟨?_, d2, d3, .inr ⟨b, o, rfl, hB, by rw [size_setCells]; exact hb, fun j hj => ?_, fun j hj => ⟨isSome_setCells b _ _ _ _ (hsp j hj).1, by rw [World.frozen?_setCells]; exact (hsp j hj).2⟩⟩⟩, grownBy_setCells _ _ _ _, size_setCells _ _ _ _, ?_⟩
        · rw [List.length_append, hl, List.length_drop]; omega
        · rw [List.length_append, hl, List.length_drop] at hj
          by_cases hjg : j < g
          · have := World.cell?_setCells_in b (ys.take g) o w (fun i hi => (hok i hi).1) j (by omega)
            rw [this, List.getElem?_append_left (by omega)]
            simp [hl, hjg]
          · rw [World.cell?_setCells_out b _ o w ⟨b, o + j, none⟩ (fun _ _ => .inr (by simp only [hl]; omega)), hc j (by omega), List.getElem?_append_right (by omega), hl, List.getElem?_drop]
            congr 1; omega
        · intro b2 o2 he j hj
          cases he
          exact ⟨World.cell?_setCells_out b _ o w ⟨b, j, none⟩ (fun _ _ => .inl hj), World.frozen?_setCells _ _ _ _ _⟩

theorem wpList_copy_onto {P : Program} {w : World} {ops : Array Oper} {rest : List Oper} {o : Oper} {ac : Act} {Q : Exit → Act → World → Prop} (hgd : o.guard = none) (od os : Operand) (dT sT elem : TypeId)
    (hop : o.op = .call { callee := .builtin .copy, args := #[od, os], argTypes := #[dT, sT] }) (hu : P.underlying dT = some (.slice elem)) (hs : (P.info? elem).map (·.size) = some 1) {B : Nat} {d a : Option Addr} {dn dc k n c g : Nat} {xs ys : List Value}
    (e1 : ac.eval od = .slice d k dc) (e2 : ac.eval os = .slice a n c) (hd : Row B w 1 d dn dc xs) (hk : k ≤ dn) (ha : Rd w 1 a n c ys) (hg : Nat.min n k = g) (h1 : ∀ v ∈ ys, v.oneCell' = true)
    (hq : ∀ w', Row B w' 1 d dn dc (ys.take g ++ xs.drop g) → w.grownBy w' (blockOf d) → w'.heap.size = w.heap.size → Ahead w w' d → wpList P ops Q rest (ac.put o.dst (goInt g)) w') :
    wpList P ops Q (o :: rest) ac w := by
  refine wpList_plain hgd fun K hK' => ?_
  obtain ⟨w', hr, h2, h3, h4, h5⟩ := run_copy_onto (P := P) dT sT o.type elem hu hs hd hk ha hg h1
  unfold Oper.wp
  simp [execOp, hop, resolve, invoke, builtin, e1, e2, hr, Result.andThen]
  exact hK' _ _ (hq w' h2 h3 h4 h5)

set_option maxRecDepth 100000 in
set_option maxHeartbeats 2000000 in
theorem srcReadN {s : Sc} {fs : Nat} {wr : Bool} {m q eb : Nat} {pa : Option Addr} {pc : Nat} {ps : List Value} {w : World} {r : Own}
    (hS : SrcAt w r fs wr s) (hok : s.ok) (_hk : s.k < 1000000000000) (hm : m ≤ 1000000) (hP : RowK w r q 1 pa m pc ps) (hq : q ≠ 0 ∧ q ≠ 30) (hE : EOFat w r eb) (hbnd : Bnd w r)
    {n : Nat} {v : Value} (hn : s.gives m = n) (hv : errV eb (s.err m) = v) :
    Calls Tryd.prog 82 #[.pointer (some ⟨fs, 0, none⟩), .slice pa m pc] w (SrcReadP fs wr s m q pa pc (.tuple #[.int .i64 n, v]) w r) := by
  obtain ⟨sd, sz, sea, sbr, sp, sk⟩ := s
  obtain ⟨dv, sa, sn, sc, wv, la, ln, lc, hb, hB, hZ, hL⟩ := hS
  obtain ⟨hz, hz64, hp1, hp2⟩ := hok
  dsimp only at *
  have c1 := hB.cell 1 rfl
  have c2 := hB.cell 2 rfl
  have c3 := hB.cell 3 rfl
  have c6 := hB.cell 6 rfl
  have c7 := hB.cell 7 rfl
  have f6 := hB.free 6 (by simp)
  have f7 := hB.free 7 (by simp)
  have hln : sd.length - sp = ln := by have := hL.1.len; rw [B8_length, List.length_drop] at this; omega
  have hlc := hL.1.le
  have hpc := hP.1.rd.le
  have hlm := hL.1.max
  have hpm := hP.1.rd.max
  unfold maxLen at hlm hpm
  obtain ⟨qq, hqq⟩ : ∃ qq, cutM sz sk m = qq := ⟨_, rfl⟩
  have hqm : qq ≤ m := by rw [← hqq]; exact cutM_le _ _ _
  have hgv : min qq ln = n := by rw [← hn]; unfold Sc.gives Sc.left; dsimp only; rw [hqq, hln]
  have hcut : ∀ wx : World, Below w.heap.size w wx → Calls Tryd.prog 83 #[.slice sa sn sc, .int .i64 sk, .int .i64 m] wx (fun e w' => e = .returned (.int .i64 qq) ∧ w' = wx) := fun wx hx => by
    exact cutN (hZ.1.below hx) hz hm _hk hqq
  have HCUT := Lib.hid hcut
  have hcut2 : ∀ wx : World, Nums wx sa sn sc sz → Calls Tryd.prog 83 #[.slice sa sn sc, .int .i64 sk, .int .i64 m] wx (fun e w' => e = .returned (.int .i64 qq) ∧ w' = wx) := fun wx hx => cutN hx hz hm _hk hqq
  have HCUT2 := Lib.hid hcut2
  clear hcut2
  have HN := Lib.hid hn
  have HV := Lib.hid hv
  have HB := Lib.hid hB
  have HZ := Lib.hid hZ
  have HL := Lib.hid hL
  have HP := Lib.hid hP
  have HE := Lib.hid hE
  have g1 : Step (fun k => k = 0 ∨ k = q) w r (w.setCell ⟨fs, 7, none⟩ (.int .i64 ((sk : Int) + 1))) r := (Step.refl _ hbnd).put _ (fun _ => ⟨0, hb, .inl rfl⟩)
  have G1 := Lib.hid g1
  clear g1 hcut hn hv hB hZ hL hP hE hz hz64 hqq
  by_cases h0 : ln = 0
  · subst h0
    obtain rfl : n = 0 := by omega
    have ev : errV eb (if sbr then 363 else -1) = v := by rw [← HV.out]; unfold Sc.err Sc.left; dsimp only; rw [if_pos hln]; rfl
    have EV := Lib.hid ev
    have hfin : Step (fun k => k = 0 ∨ k = q) w r (w.setCell ⟨fs, 7, none⟩ (.int .i64 ((sk : Int) + 1))) r ∧ SrcAt (w.setCell ⟨fs, 7, none⟩ (.int .i64 ((sk : Int) + 1))) r fs wr (Sc.next ⟨sd, sz, sea, sbr, sp, sk⟩ m) ∧ RowK (w.setCell ⟨fs, 7, none⟩ (.int .i64 ((sk : Int) + 1))) r q 1 pa m pc ps ∧ Ahead w (w.setCell ⟨fs, 7, none⟩ (.int .i64 ((sk : Int) + 1))) pa := by
      have hg1 : Step (fun k => k = 0) w r (w.setCell ⟨fs, 7, none⟩ (.int .i64 ((sk : Int) + 1))) r := (Step.refl _ hbnd).put _ (fun _ => ⟨0, hb, rfl⟩)
      refine ⟨G1.out, ⟨dv, sa, sn, sc, wv, la, 0, lc, hb, HB.out.set (j := 7) _, HZ.out.step hg1 (fun k hk => by cases hk), ?_⟩, HP.out.step hg1 hq.1, Ahead.step HP.out hg1 hq.1⟩
      have := HL.out.step hg1 (fun k hk => by cases hk; omega)
      simp only [Sc.next]
      rw [HN.out, Nat.add_zero]
      exact this
    have HFIN := Lib.hid hfin
    clear hfin ev
    go_enter Tryd.func82, Tryd.ntmps82
    go_wp2_with fail
    have e3 := (HB.out.set (j := 7) (.int .i64 ((sk : Int) + 1))).cell 3 rfl
    have hE1 := (HE.out.step G1.out).2.2
    refine (endN e3 hE1 EV.out).mono ?_
    rintro e w2 ⟨rfl, hb2⟩
    have HB2 := Lib.hid hb2
    clear hb2 e3 hE1
    go_wp2
    refine bodyPost_ret (v := .tuple #[.int .i64 0, v]) (by simp [results, Tryd.f82, go_sem]) rfl ?_
    obtain ⟨k1, k2, k3, k4⟩ := HFIN.out
    have g0 : Step (fun k => k = 0) (w.setCell ⟨fs, 7, none⟩ (.int .i64 ((sk : Int) + 1))) r w2 r := (Step.refl _ k1.bound).calm HB2.out
    have g9 : Step (fun _ => False) (w.setCell ⟨fs, 7, none⟩ (.int .i64 ((sk : Int) + 1))) r w2 r := (Step.refl _ k1.bound).calm HB2.out
    refine ⟨rfl, k1.calm HB2.out, k2.step g9 id id, ⟨ps, k3.step g0 hq.1, ?_⟩, k4.trans (Ahead.step k3 g0 hq.1)⟩
    rw [HN.out, List.take_zero, List.take_zero]; rfl
  · have hqm' : (qq : Int) ≤ m := by omega
    have hqc' : (qq : Int) ≤ pc := by omega
    have hqc : qq ≤ pc := by omega
    have hl0 : ((ln : Int) == 0) = false := by simp; omega
    obtain ⟨i0, u8i, _, u8s, _⟩ := u8Info
    have hnl : n ≤ ln := by omega
    go_enter Tryd.func82, Tryd.ntmps82
    go_wp2_with fail
    have hM : Step (fun k => k = 0) w r (w.setCell ⟨fs, 7, none⟩ (.int .i64 ((sk : Int) + 1))) r ∧ Blk (w.setCell ⟨fs, 7, none⟩ (.int .i64 ((sk : Int) + 1))) fs [dv, .slice sa sn sc, .bool sea, .bool sbr, .bool wr, wv, .slice la ln lc, .int .i64 ((sk : Int) + 1)] ∧
        (w.setCell ⟨fs, 7, none⟩ (.int .i64 ((sk : Int) + 1))).heap.size = w.heap.size :=
      ⟨(Step.refl _ hbnd).put _ (fun _ => ⟨0, hb, rfl⟩), HB.out.set (j := 7) _, by simp [World.setCell]⟩
    generalize w.setCell ⟨fs, 7, none⟩ (.int .i64 ((sk : Int) + 1)) = w1 at hM ⊢
    have HM := Lib.hid hM
    clear hM G1 c1 c2 c3 c6 c7 f6 f7
    have c1' := HM.out.2.1.cell 1 rfl
    have c6' := HM.out.2.1.cell 6 rfl
    refine wp_region_still_tail 15 (by kernel_rfl) (by kernel_rfl) ?_
    simp only [List.take_succ_cons, List.take_zero, List.drop_succ_cons, List.drop_zero]
    repeat still_step
    have hcz := HCUT2.out w1.drew ((HZ.out.step HM.out.1.drew (fun k hk => by cases hk)).1)
    still_call hcz
    repeat still_step
    refine wpStill_nil ?_
    clear c1' c6'
    refine wpList_copy_onto rfl _ _ 78 78 5 rfl under78 (by kernel_rfl) rfl rfl ((HP.out.step HM.out.1.drew hq.1).1) hqm ((HL.out.step HM.out.1.drew (fun k hk e => by cases hk; cases e)).1) (by show min ln qq = n; omega) (B8_one _) ?_
    intro w2 hrow hgr hsz hah
    have HR := Lib.hid hrow
    have HG := Lib.hid hgr
    have HA := Lib.hid hah
    have HS2 := Lib.hid hsz
    clear hrow hgr hsz hah
    have HM2 := Lib.hid (HM.out.2.1.drew.grown HG.out (fun e => by have := HP.out.2 fs e; rw [hb] at this; cases this; exact hq.1 rfl))
    have c2' := HM2.out.cell 2 rfl
    have c3' := HM2.out.cell 3 rfl
    have c6' := HM2.out.cell 6 rfl
    have f6' := HM2.out.free 6 (by simp)
    have hsl := run_slice_from (P := Tryd.prog) 78 5 under78 u8i u8s la ln lc n hnl
    have hfs : ∀ x, blockOf pa = some x → x ≠ fs := fun x hx e => by subst e; have := HP.out.2 x hx; rw [hb] at this; cases this; exact hq.1 rfl
    have hfin : ∀ (ca : Nat), ln - n = ca → Step (fun k => k = 0 ∨ k = q) w r (w2.setCell ⟨fs, 6, none⟩ (.slice (slAt la n lc 1) ca (lc - n))) r ∧ SrcAt (w2.setCell ⟨fs, 6, none⟩ (.slice (slAt la n lc 1) ca (lc - n))) r fs wr (Sc.next ⟨sd, sz, sea, sbr, sp, sk⟩ m) ∧
        ReadInto ⟨sd, sz, sea, sbr, sp, sk⟩ n w (w2.setCell ⟨fs, 6, none⟩ (.slice (slAt la n lc 1) ca (lc - n))) r q pa m pc := by
      intro ca hca
      subst hca
      have k1 : Step (fun k => k = 0 ∨ k = q) w r (w2.setCell ⟨fs, 6, none⟩ (.slice (slAt la n lc 1) (ln - n) (lc - n))) r :=
        ((HM.out.1.drew.mono (fun k hk => .inl hk)).grown HG.out (fun x hx _ => ⟨q, HP.out.2 x hx, .inr rfl⟩)).put _ (fun _ => ⟨0, hb, .inl rfl⟩)
      refine ⟨k1, ⟨dv, sa, sn, sc, wv, slAt la n lc 1, ln - n, lc - n, hb, HM2.out.set (j := 6) _, HZ.out.step k1 (fun k hk => by cases hk), ?_⟩, ⟨_, ⟨HR.out.kept (grownBy_setAt _ _ _) (.inl (fun e => hfs fs e rfl)), HP.out.2⟩, ?_⟩, ?_⟩
      · have h1 := HL.out.step k1 (fun k hk e => by cases hk; rcases e with e | e <;> omega)
        refine ⟨?_, .inr (fun x hx => ?_)⟩
        · have := h1.1.from hnl
          simp only [Sc.next, HN.out]
          rw [← List.drop_drop, B8_drop]
          simpa using this
        · rcases h1.2 with h2 | h2
          · omega
          · exact h2 x (by rw [blockOf_slAt] at hx; exact hx)
      · rw [List.take_append_of_le_length (by rw [List.length_take, B8_length, List.length_drop]; omega), List.take_take, Nat.min_self, ← B8_take]
      · refine (Ahead.step HP.out HM.out.1.drew hq.1).trans (HA.out.trans (Ahead.same (fun x hx => Below.heap_setCell _ _ _ _ (hfs x hx))))
    have HFIN := Lib.hid hfin
    have hE2 := fun (ca : Nat) (h : ln - n = ca) => HE.out.step (HFIN.out ca h).1
    have HE2 := Lib.hid hE2
    clear hfin hE2
    by_cases hnl2 : n = ln
    · subst hnl2
      have hz0 : n - n = 0 := Nat.sub_self n
      have hnpos : decide ((n : Int) > 0) = true := by simp; omega
      have hF := HFIN.out 0 hz0
      have HF := Lib.hid hF
      clear hF
      cases sea
      · have ev : v = .nilIface := by rw [← HV.out]; unfold Sc.err Sc.left; dsimp only; rw [if_neg (by omega), if_neg (fun h => by simp at h)]; rfl
        subst ev
        go_wp2_with fail
        refine bodyPost_ret (v := .tuple #[.int .i64 (n : Int), .nilIface]) (by simp [results, Tryd.f82, go_sem]) rfl ?_
        obtain ⟨k1, k2, k3⟩ := HF.out
        exact ⟨rfl, k1, k2, by rw [HN.out]; exact k3⟩
      · have ev : errV eb (if sbr then 363 else -1) = v := by
          rw [← HV.out]
          have : Sc.err ⟨sd, sz, true, sbr, sp, sk⟩ m = if sbr then 363 else -1 := by
            unfold Sc.err Sc.left; dsimp only; rw [if_neg (by omega), if_pos ⟨by rw [HN.out]; omega, rfl⟩]; rfl
          rw [this]
        have EV := Lib.hid ev
        clear ev
        go_wp2_with fail
        have e3 := (HM2.out.set (j := 6) (.slice (slAt la n lc 1) 0 (lc - n))).cell 3 rfl
        refine (endN e3 (HE2.out 0 hz0).2.2 EV.out).mono ?_
        rintro e w4 ⟨rfl, hb2⟩
        have HB2 := Lib.hid hb2
        clear hb2 e3
        go_wp2
        refine bodyPost_ret (v := .tuple #[.int .i64 (n : Int), v]) (by simp [results, Tryd.f82, go_sem]) rfl ?_
        obtain ⟨k1, k2, ⟨xs, k3, k4⟩, k5⟩ := HF.out
        have g0 : Step (fun k => k = 0) (w2.setCell ⟨fs, 6, none⟩ (.slice (slAt la n lc 1) 0 (lc - n))) r w4 r := (Step.refl _ k1.bound).calm HB2.out
        have g9 : Step (fun _ => False) (w2.setCell ⟨fs, 6, none⟩ (.slice (slAt la n lc 1) 0 (lc - n))) r w4 r := (Step.refl _ k1.bound).calm HB2.out
        refine ⟨rfl, k1.calm HB2.out, k2.step g9 id id, ?_⟩
        rw [HN.out]
        exact ⟨⟨xs, k3.step g0 hq.1, k4⟩, k5.trans (Ahead.step k3 g0 hq.1)⟩
    · obtain ⟨ca, hca⟩ : ∃ ca, ln - n = ca := ⟨_, rfl⟩
      have hcz : ((ca : Int) == 0) = false := by simp; omega
      have hF := HFIN.out ca hca
      have HF := Lib.hid hF
      have ev : v = .nilIface := by rw [← HV.out]; unfold Sc.err Sc.left; dsimp only; rw [if_neg (by omega), if_neg (fun h => hnl2 (by rw [← HN.out, h.1]; exact hln))]; rfl
      subst ev
      clear hF
      go_wp2_with fail
      refine bodyPost_ret (v := .tuple #[.int .i64 (n : Int), .nilIface]) (by simp [results, Tryd.f82, go_sem]) rfl ?_
      obtain ⟨k1, k2, k3⟩ := HF.out
      exact ⟨rfl, k1, k2, by rw [HN.out]; exact k3⟩
end Go.Proofs.YtigfgdefgnahpaaDoor
