/-
  The document's As (walk). Not a statement of the seat.
-/
import Derived.Test.YtbldidiibkcelaaGreatDoorPEAsFace
namespace Go.Proofs.YtbldidiibkcelaaGreatDoor
open Go.RowKit

/-- what As finds: of a row -/
def asL (m : Int) : Eo → Option Et
  | .nil => none
  | .cons k i c t b cs ks rest => match (if k = 0 ∨ m ≤ 0 ∨ 11 ≤ m then none else if ktM k = ktM m then some ⟨k, i, c, t, b, cs, ks⟩ else if k = 9 ∧ m = 1 then some ⟨1, 0, c, t, Dt.zero, [], .nil⟩ else asL m ks : Option Et) with
    | some x => some x
    | none => asL m rest
/-- .. of one error -/
def as1 (m : Int) (e : Et) : Option Et := if e.k = 0 ∨ m ≤ 0 ∨ 11 ≤ m then none else if ktM e.k = ktM m then some e else if e.k = 9 ∧ m = 1 then some ⟨1, 0, e.c, e.t, Dt.zero, [], .nil⟩ else asL m e.l
theorem asL_cons (m k i c : Int) (t : Bs) (b : Dt) (cs : List Int) (ks rest : Eo) : asL m (.cons k i c t b cs ks rest) = match as1 m ⟨k, i, c, t, b, cs, ks⟩ with | some x => some x | none => asL m rest := by
  rw [asL]
  rfl
theorem asL_app (m : Int) : ∀ (f g : Eo), asL m (f.app g) = match asL m f with | some x => some x | none => asL m g
  | .nil, _ => rfl
  | .cons k i c t b cs ks rest, g => by
    rw [Eo.app, asL_cons, asL_cons, asL_app m rest g]
    cases as1 m ⟨k, i, c, t, b, cs, ks⟩ with
    | some x => rfl
    | none => rfl
def RASOK (m : Int) (kids : Eo) : Prop := ∀ (k i c : Int) (t : Bs) (b : Dt) (cs : List Int) (bl : Option Addr) (bn bc : Nat) (cl : Option Addr) (cn cc : Nat) (l : Option Addr) (n cap : Nat) (S : Nat → Prop) (w : World), ErAt S w ⟨k, i, c, t, b, cs, kids⟩ bl bn bc cl cn cc l n cap → (∀ x, S x → x < w.heap.size) → rightE ⟨k, i, c, t, b, cs, kids⟩ = true → okS ⟨k, i, c, t, b, cs, kids⟩ →
  Calls Tryz.prog 33 #[vE k i c t b bl bn bc cl cn cc l n cap, .int .i64 m] w (CLT (as1 m ⟨k, i, c, t, b, cs, kids⟩).isSome ((as1 m ⟨k, i, c, t, b, cs, kids⟩).getD Et.zero).k ((as1 m ⟨k, i, c, t, b, cs, kids⟩).getD Et.zero).i ((as1 m ⟨k, i, c, t, b, cs, kids⟩).getD Et.zero).c ((as1 m ⟨k, i, c, t, b, cs, kids⟩).getD Et.zero).t ((as1 m ⟨k, i, c, t, b, cs, kids⟩).getD Et.zero).b ((as1 m ⟨k, i, c, t, b, cs, kids⟩).getD Et.zero).cs ((as1 m ⟨k, i, c, t, b, cs, kids⟩).getD Et.zero).l w)
def RsRel (m : Int) (kids : Eo) (w1 : World) (t18 : Value) (wr : World) : Prop := ∃ dn rest : Eo, t18 = .int .i64 (dn.len : Nat) ∧ kids = dn.app rest ∧ asL m dn = none ∧ Below w1.heap.size w1 wr
set_option maxRecDepth 100000 in
set_option maxHeartbeats 16000000 in
theorem rasN {m : Int} {kids : Eo} (hall : kids.All (RASOK m)) : RASOK m kids := by
  intro k i c t b cs bl bn bc cl cn cc l n cap S w hE hS hr hok
  obtain ⟨⟨hP, hZ⟩, hB, hsz⟩ := clw2_facts w k i c t b bl bn bc cl cn cc l n cap
  have HF := Lib.hid hE.2.2
  have HLEN := Lib.hid (show kids.len = n from hE.2.2.len)
  have hnb : n ≤ 100000 := by have h1 : kids.len = n := hE.2.2.len; have := hok.2.2.1; dsimp only at this; omega
  have HEX := Lib.hid (fun (wx : World) (hx : Below w.heap.size w wx) => ecopyG kids k i c t b cs bl bn bc cl cn cc l n cap S wx (hE.same (w' := wx) (fun x _ hl => hx.block x hl) (fun x hx2 _ => hx2)) (fun x hx2 => Nat.lt_of_lt_of_le (hS x hx2) hx.size) hok.1 hok.2.1 hok.2.2.1 hok.2.2.2)
  have HK1 := Lib.hid (fun (wx : World) => ktN k wx)
  have HK2 := Lib.hid (fun (wx : World) => ktN m wx)
  have HS := Lib.hid hS
  have HALL := Lib.hid (And.intro hall (And.intro hr hok))
  have hfd0 : as1 m ⟨k, i, c, t, b, cs, kids⟩ = if k = 0 ∨ m ≤ 0 ∨ 11 ≤ m then none else if ktM k = ktM m then some ⟨k, i, c, t, b, cs, kids⟩ else if k = 9 ∧ m = 1 then some ⟨1, 0, c, t, Dt.zero, [], .nil⟩ else asL m kids := rfl
  generalize as1 m ⟨k, i, c, t, b, cs, kids⟩ = fd at *
  unfold vE at HEX ⊢
  clear hE hS hall hr hok
  go_enter Tryz.func33, Tryz.ntmps33
  go_upto_region 1 with (fail)
  change Code.wp _ _ _ _ (clw2 w k i c t b bl bn bc cl cn cc l n cap)
  generalize clw2 w k i c t b bl bn bc cl cn cc l n cap = w1 at *
  obtain ⟨z, hz⟩ : ∃ z, z = w.heap.size + 1 := ⟨_, rfl⟩
  obtain ⟨p, hp⟩ : ∃ q, q = w.heap.size := ⟨_, rfl⟩
  rw [← hp] at hP
  rw [← hz] at hZ
  rw [← hz, ← hp]
  have HB := Lib.hid hB
  have HZ := Lib.hid hZ
  have HP := Lib.hid hP
  have HLT := Lib.hid (show w.heap.size ≤ z ∧ z < w1.heap.size ∧ w.heap.size ≤ w1.heap.size from by omega)
  have x0 := hP.cell 0 rfl
  have x1 := hP.cell 1 rfl
  have x2 := hP.cell 2 rfl
  have x3 := hP.cell 3 rfl
  have x4 := hP.cell 4 rfl
  have x5 := hP.cell 5 rfl
  have x6 := hP.cell 6 rfl
  have x7 := hP.cell 7 rfl
  have x8 := hP.cell 8 rfl
  have x9 := hP.cell 9 rfl
  have x10 := hP.cell 10 rfl
  clear hP hZ hB hsz hp hz
  by_cases h0 : k = 0
  · subst h0
    have HFD := Lib.hid (show fd = none from hfd0)
    clear hfd0
    have c0 := HZ.out.cell 0 rfl; have f0 := HZ.out.free 0 (by simp [Z11]); have c1 := HZ.out.cell 1 rfl; have f1 := HZ.out.free 1 (by simp [Z11]); have c2 := HZ.out.cell 2 rfl; have f2 := HZ.out.free 2 (by simp [Z11]); have c3 := HZ.out.cell 3 rfl; have f3 := HZ.out.free 3 (by simp [Z11]); have c4 := HZ.out.cell 4 rfl; have f4 := HZ.out.free 4 (by simp [Z11]); have c5 := HZ.out.cell 5 rfl; have f5 := HZ.out.free 5 (by simp [Z11]); have c6 := HZ.out.cell 6 rfl; have f6 := HZ.out.free 6 (by simp [Z11]); have c7 := HZ.out.cell 7 rfl; have f7 := HZ.out.free 7 (by simp [Z11]); have c8 := HZ.out.cell 8 rfl; have f8 := HZ.out.free 8 (by simp [Z11]); have c9 := HZ.out.cell 9 rfl; have f9 := HZ.out.free 9 (by simp [Z11]); have c10 := HZ.out.cell 10 rfl; have f10 := HZ.out.free 10 (by simp [Z11])
    go_wp2_with fail
    rw [HFD.out]
    exact ct_fin (f := false) (kids := .nil) (k := 0) (i := 0) (c := 0) (t := []) (b := Dt.zero) (cs := []) (bl := none) (bn := 0) (bc := 0) (cl := none) (cn := 0) (cc := 0) (l := none) (n := 0) (cap := 0) (vs := []) (w2 := w1) Tryz.results33 rfl rfl ⟨HLT.out.1, HLT.out.2.1⟩ HB.out HZ.out (FoAt.nil _ _) (Row.nil _ _ _) ⟨Row.nil _ _ _, rfl⟩ (Below.refl _ _)
  have h0b : (k == 0) = false := by simp [h0]
  by_cases hm : m ≤ 0
  · have HFD := Lib.hid (show fd = none by rw [hfd0, if_pos (.inr (.inl hm))])
    clear hfd0
    have c0 := HZ.out.cell 0 rfl; have f0 := HZ.out.free 0 (by simp [Z11]); have c1 := HZ.out.cell 1 rfl; have f1 := HZ.out.free 1 (by simp [Z11]); have c2 := HZ.out.cell 2 rfl; have f2 := HZ.out.free 2 (by simp [Z11]); have c3 := HZ.out.cell 3 rfl; have f3 := HZ.out.free 3 (by simp [Z11]); have c4 := HZ.out.cell 4 rfl; have f4 := HZ.out.free 4 (by simp [Z11]); have c5 := HZ.out.cell 5 rfl; have f5 := HZ.out.free 5 (by simp [Z11]); have c6 := HZ.out.cell 6 rfl; have f6 := HZ.out.free 6 (by simp [Z11]); have c7 := HZ.out.cell 7 rfl; have f7 := HZ.out.free 7 (by simp [Z11]); have c8 := HZ.out.cell 8 rfl; have f8 := HZ.out.free 8 (by simp [Z11]); have c9 := HZ.out.cell 9 rfl; have f9 := HZ.out.free 9 (by simp [Z11]); have c10 := HZ.out.cell 10 rfl; have f10 := HZ.out.free 10 (by simp [Z11])
    go_wp2_with fail
    rw [HFD.out]
    exact ct_fin (f := false) (kids := .nil) (k := 0) (i := 0) (c := 0) (t := []) (b := Dt.zero) (cs := []) (bl := none) (bn := 0) (bc := 0) (cl := none) (cn := 0) (cc := 0) (l := none) (n := 0) (cap := 0) (vs := []) (w2 := w1) Tryz.results33 rfl rfl ⟨HLT.out.1, HLT.out.2.1⟩ HB.out HZ.out (FoAt.nil _ _) (Row.nil _ _ _) ⟨Row.nil _ _ _, rfl⟩ (Below.refl _ _)
  by_cases hm2 : 11 ≤ m
  · have HFD := Lib.hid (show fd = none by rw [hfd0, if_pos (.inr (.inr hm2))])
    clear hfd0
    have c0 := HZ.out.cell 0 rfl; have f0 := HZ.out.free 0 (by simp [Z11]); have c1 := HZ.out.cell 1 rfl; have f1 := HZ.out.free 1 (by simp [Z11]); have c2 := HZ.out.cell 2 rfl; have f2 := HZ.out.free 2 (by simp [Z11]); have c3 := HZ.out.cell 3 rfl; have f3 := HZ.out.free 3 (by simp [Z11]); have c4 := HZ.out.cell 4 rfl; have f4 := HZ.out.free 4 (by simp [Z11]); have c5 := HZ.out.cell 5 rfl; have f5 := HZ.out.free 5 (by simp [Z11]); have c6 := HZ.out.cell 6 rfl; have f6 := HZ.out.free 6 (by simp [Z11]); have c7 := HZ.out.cell 7 rfl; have f7 := HZ.out.free 7 (by simp [Z11]); have c8 := HZ.out.cell 8 rfl; have f8 := HZ.out.free 8 (by simp [Z11]); have c9 := HZ.out.cell 9 rfl; have f9 := HZ.out.free 9 (by simp [Z11]); have c10 := HZ.out.cell 10 rfl; have f10 := HZ.out.free 10 (by simp [Z11])
    go_wp2_with fail
    rw [HFD.out]
    exact ct_fin (f := false) (kids := .nil) (k := 0) (i := 0) (c := 0) (t := []) (b := Dt.zero) (cs := []) (bl := none) (bn := 0) (bc := 0) (cl := none) (cn := 0) (cc := 0) (l := none) (n := 0) (cap := 0) (vs := []) (w2 := w1) Tryz.results33 rfl rfl ⟨HLT.out.1, HLT.out.2.1⟩ HB.out HZ.out (FoAt.nil _ _) (Row.nil _ _ _) ⟨Row.nil _ _ _, rfl⟩ (Below.refl _ _)
  rw [if_neg (by omega)] at hfd0
  generalize hk1 : ktM k = q1 at *
  generalize hk2 : ktM m = q2 at *
  clear hk1 hk2
  by_cases hq : q1 = q2
  · have HFD := Lib.hid (show fd = some ⟨k, i, c, t, b, cs, kids⟩ by rw [hfd0, if_pos hq])
    have hqb : (q1 == q2) = true := by simp [hq]
    clear hfd0 hq
    go_wp2_with (first
      | (go_at_call 44; (with_reducible refine (HK1.out _).mono ?_); rintro r2 w2 ⟨rfl, rfl⟩)
      | (go_at_call 44; (with_reducible refine (HK2.out _).mono ?_); rintro r2 w2 ⟨rfl, rfl⟩)
      | (go_at_call 25; (with_reducible refine (HEX.out _ HB.out).mono ?_); intro r4 w4 h4; obtain ⟨bl3, bn3, bc3, cl3, cn3, cc3, l3, n3, cap3, vs3, rfl, hF3, hR3, hT3, hB4⟩ := h4
         have HZ9 := Lib.hid (HZ.out.below hB4)
         have HR := Lib.hid (And.intro hF3 (And.intro hR3 (And.intro hT3 hB4)))
         have c0 := HZ9.out.cell 0 rfl; have f0 := HZ9.out.free 0 (by simp [Z11]); have c1 := HZ9.out.cell 1 rfl; have f1 := HZ9.out.free 1 (by simp [Z11]); have c2 := HZ9.out.cell 2 rfl; have f2 := HZ9.out.free 2 (by simp [Z11]); have c3 := HZ9.out.cell 3 rfl; have f3 := HZ9.out.free 3 (by simp [Z11]); have c4 := HZ9.out.cell 4 rfl; have f4 := HZ9.out.free 4 (by simp [Z11]); have c5 := HZ9.out.cell 5 rfl; have f5 := HZ9.out.free 5 (by simp [Z11]); have c6 := HZ9.out.cell 6 rfl; have f6 := HZ9.out.free 6 (by simp [Z11]); have c7 := HZ9.out.cell 7 rfl; have f7 := HZ9.out.free 7 (by simp [Z11]); have c8 := HZ9.out.cell 8 rfl; have f8 := HZ9.out.free 8 (by simp [Z11]); have c9 := HZ9.out.cell 9 rfl; have f9 := HZ9.out.free 9 (by simp [Z11]); have c10 := HZ9.out.cell 10 rfl; have f10 := HZ9.out.free 10 (by simp [Z11])
         unfold vE
         clear hF3 hR3 hT3 hB4))
    rw [HFD.out]
    exact ct_fin Tryz.results33 rfl rfl ⟨HLT.out.1, HLT.out.2.1⟩ HB.out HZ9.out HR.out.1 HR.out.2.1 HR.out.2.2.1 HR.out.2.2.2
  have hqb : (q1 == q2) = false := by simp [hq]
  rw [if_neg hq] at hfd0
  clear hq
  by_cases h9 : k = 9 ∧ m = 1
  · have HFD := Lib.hid (show fd = some ⟨1, 0, c, t, Dt.zero, [], .nil⟩ by rw [hfd0, if_pos h9])
    have h9b : (k == 9) = true := by simp [h9.1]
    have h1b : (m == 1) = true := by simp [h9.2]
    clear hfd0 h9
    have c0 := HZ.out.cell 0 rfl; have f0 := HZ.out.free 0 (by simp [Z11]); have c1 := HZ.out.cell 1 rfl; have f1 := HZ.out.free 1 (by simp [Z11]); have c2 := HZ.out.cell 2 rfl; have f2 := HZ.out.free 2 (by simp [Z11]); have c3 := HZ.out.cell 3 rfl; have f3 := HZ.out.free 3 (by simp [Z11]); have c4 := HZ.out.cell 4 rfl; have f4 := HZ.out.free 4 (by simp [Z11]); have c5 := HZ.out.cell 5 rfl; have f5 := HZ.out.free 5 (by simp [Z11]); have c6 := HZ.out.cell 6 rfl; have f6 := HZ.out.free 6 (by simp [Z11]); have c7 := HZ.out.cell 7 rfl; have f7 := HZ.out.free 7 (by simp [Z11]); have c8 := HZ.out.cell 8 rfl; have f8 := HZ.out.free 8 (by simp [Z11]); have c9 := HZ.out.cell 9 rfl; have f9 := HZ.out.free 9 (by simp [Z11]); have c10 := HZ.out.cell 10 rfl; have f10 := HZ.out.free 10 (by simp [Z11])
    go_wp2_with (first
      | (go_at_call 44; (with_reducible refine (HK1.out _).mono ?_); rintro r2 w2 ⟨rfl, rfl⟩)
      | (go_at_call 44; (with_reducible refine (HK2.out _).mono ?_); rintro r2 w2 ⟨rfl, rfl⟩))
    rw [HFD.out]
    exact ct_fin (f := true) (kids := .nil) (k := 1) (i := 0) (c := c) (t := t) (b := Dt.zero) (cs := []) (bl := none) (bn := 0) (bc := 0) (cl := none) (cn := 0) (cc := 0) (l := none) (n := 0) (cap := 0) (vs := []) Tryz.results33 rfl rfl ⟨HLT.out.1, HLT.out.2.1⟩ HB.out HZ.out (FoAt.nil _ _) (Row.nil _ _ _) ⟨Row.nil _ _ _, rfl⟩ (Below.refl _ _)
  rw [if_neg h9] at hfd0
  have h9b : (k == 9) = false ∨ ((k == 9) = true ∧ (m == 1) = false) := by
    by_cases h : k = 9
    · exact .inr ⟨by simp [h], by simp; exact fun e => h9 ⟨h, e⟩⟩
    · exact .inl (by simp [h])
  clear h9
  have HFL := Lib.hid (show fd = asL m kids from hfd0)
  have H0 := Lib.hid (fun (w2 : World) => show RsRel m kids w2 (.int .i64 0) w2 from ⟨.nil, kids, rfl, rfl, rfl, Below.refl _ _⟩)
  clear hfd0
  rcases h9b with h9b | ⟨h9b, h1b⟩
  all_goals
    go_wp2_with (first
      | (go_at_call 44; (with_reducible refine (HK1.out _).mono ?_); rintro r2 w2 ⟨rfl, rfl⟩)
      | (go_at_call 44; (with_reducible refine (HK2.out _).mono ?_); rintro r2 w2 ⟨rfl, rfl⟩))
    clear x0 x1 x2 x3 x4 x5 x6 x7 x8 x9 x10
    go_loopw [44] (fun t44 wr => RsRel m kids w2 t44 wr) (fun t44 _ => n - (intOf t44).toNat)
    case atStart => exact H0.out _
    case round =>
      clear H0
      obtain ⟨dn, rest, rfl, hk, hfd, hBr⟩ := hrel
      have hlen := HLEN.out
      rw [hk, Eo.len_app] at hlen
      have HZR := Lib.hid (HZ.out.below hBr)
      have HBr := Lib.hid (bel_tr HB.out hBr)
      have HB1 := Lib.hid hBr
      cases rest with
      | nil =>
        have hj : ¬ (dn.len : Int) < (n : Int) := by have : Eo.len .nil = 0 := rfl; omega
        have HN := Lib.hid (show fd = none by rw [HFL.out, hk, Eo.app_nil, hfd])
        have c0 := HZR.out.cell 0 rfl; have f0 := HZR.out.free 0 (by simp [Z11]); have c1 := HZR.out.cell 1 rfl; have f1 := HZR.out.free 1 (by simp [Z11]); have c2 := HZR.out.cell 2 rfl; have f2 := HZR.out.free 2 (by simp [Z11]); have c3 := HZR.out.cell 3 rfl; have f3 := HZR.out.free 3 (by simp [Z11]); have c4 := HZR.out.cell 4 rfl; have f4 := HZR.out.free 4 (by simp [Z11]); have c5 := HZR.out.cell 5 rfl; have f5 := HZR.out.free 5 (by simp [Z11]); have c6 := HZR.out.cell 6 rfl; have f6 := HZR.out.free 6 (by simp [Z11]); have c7 := HZR.out.cell 7 rfl; have f7 := HZR.out.free 7 (by simp [Z11]); have c8 := HZR.out.cell 8 rfl; have f8 := HZR.out.free 8 (by simp [Z11]); have c9 := HZR.out.cell 9 rfl; have f9 := HZR.out.free 9 (by simp [Z11]); have c10 := HZR.out.cell 10 rfl; have f10 := HZR.out.free 10 (by simp [Z11])
        clear hk hlen hfd hBr
        go_wp2_with fail
        rw [HN.out]
        exact ct_fin (f := false) (kids := .nil) (k := 0) (i := 0) (c := 0) (t := []) (b := Dt.zero) (cs := []) (bl := none) (bn := 0) (bc := 0) (cl := none) (cn := 0) (cc := 0) (l := none) (n := 0) (cap := 0) (vs := []) (w2 := wr) Tryz.results33 rfl rfl ⟨HLT.out.1, Nat.lt_of_lt_of_le HLT.out.2.1 HB1.out.size⟩ HBr.out HZR.out (FoAt.nil _ _) (Row.nil _ _ _) ⟨Row.nil _ _ _, rfl⟩ (Below.refl _ _)
      | cons k2 i2 c2 t2 b2 cs2 ks r2 =>
        have hlr : (Eo.cons k2 i2 c2 t2 b2 cs2 ks r2).len = r2.len + 1 := rfl
        have hF := HF.out.same (w' := wr) (fun x _ hlt => HBr.out.block x hlt) (fun x hx _ => hx)
        rw [hk] at hF
        obtain ⟨bb, off, bl2, bn2, bc2, cl2, cn2, cc2, a2, n2, cp2, rfl, hkF, he, _, hjn⟩ := hF.elem
        have e0 := he 0 (by omega)
        have e1 := he 1 (by omega)
        have e2 := he 2 (by omega)
        have e3 := he 3 (by omega)
        have e4 := he 4 (by omega)
        have e5 := he 5 (by omega)
        have e6 := he 6 (by omega)
        have e7 := he 7 (by omega)
        have e8 := he 8 (by omega)
        have e9 := he 9 (by omega)
        have e10 := he 10 (by omega)
        simp only [V11, List.getElem?_cons_zero, List.getElem?_cons_succ, Nat.add_zero] at e0 e1 e2 e3 e4 e5 e6 e7 e8 e9 e10
        have hj : (dn.len : Int) < (n : Int) := by omega
        obtain ⟨hall, hr, hok⟩ := HALL.out
        have hOK : RASOK m ks := by
          rw [hk] at hall
          exact (Eo.All.split dn hall).1
        have hr2 : rightE ⟨k2, i2, c2, t2, b2, cs2, ks⟩ = true := by
          have h3 := hr
          unfold rightE rright1 at h3
          rw [Bool.and_eq_true] at h3
          have h4 := h3.2
          dsimp only at h4
          rw [hk] at h4
          exact right_head (rrightL_app _ dn h4)
        have hok2 : okS ⟨k2, i2, c2, t2, b2, cs2, ks⟩ := by
          have h4 := okC_app dn (hk ▸ hok.2.2.2 : okC (dn.app (.cons k2 i2 c2 t2 b2 cs2 ks r2)))
          exact ⟨h4.1, h4.2.1, h4.2.2.1, h4.2.2.2.1⟩
        have HC := Lib.hid (hOK k2 i2 c2 t2 b2 cs2 bl2 bn2 bc2 cl2 cn2 cc2 a2 n2 cp2 S wr hkF (fun x hx2 => Nat.lt_of_lt_of_le (HS.out x hx2) HBr.out.size) hr2 hok2)
        unfold vE at HC
        have hfl : fd = match as1 m ⟨k2, i2, c2, t2, b2, cs2, ks⟩ with | some x => some x | none => asL m r2 := by
          rw [HFL.out, hk, asL_app, hfd, asL_cons]
        have hfn : as1 m ⟨k2, i2, c2, t2, b2, cs2, ks⟩ = none → asL m (dn.app (.cons k2 i2 c2 t2 b2 cs2 ks .nil)) = none := fun h => by
          rw [asL_app, hfd, asL_cons, h]
          rfl
        have HKK := Lib.hid hk
        have HFN := Lib.hid (And.intro hfl hfn)
        have x10 := (HP.out.below hBr).cell 10 rfl
        generalize hjj : dn.len = j at *
        have HJJ := Lib.hid hjj
        have HJ := Lib.hid hjn
        clear hk hlen hF hkF he hlr hall hr hok hOK hr2 hok2 hfl hfn hfd hBr hjj
        generalize as1 m ⟨k2, i2, c2, t2, b2, cs2, ks⟩ = fe at *
        go_upto_region 11 with (first
          | (go_at_call 33; (with_reducible refine HC.out.mono ?_); intro r4 w4 h4; obtain ⟨bl3, bn3, bc3, cl3, cn3, cc3, l3, n3, cap3, vs3, rfl, hF3, hR3, hT3, hB4⟩ := CLT.ahead h4
             have HR := Lib.hid (And.intro hF3 (And.intro hR3 (And.intro hT3 hB4)))
             unfold vE
             clear hF3 hR3 hT3 hB4 h4))
        change Code.wp _ _ _ _ (ebox w4 (fe.getD Et.zero).k (fe.getD Et.zero).i (fe.getD Et.zero).c (fe.getD Et.zero).t (fe.getD Et.zero).b bl3 bn3 bc3 cl3 cn3 cc3 l3 n3 cap3)
        have hY := ebox_blk w4 (fe.getD Et.zero).k (fe.getD Et.zero).i (fe.getD Et.zero).c (fe.getD Et.zero).t (fe.getD Et.zero).b bl3 bn3 bc3 cl3 cn3 cc3 l3 n3 cap3
        have hB5 := ebox_below w4 (fe.getD Et.zero).k (fe.getD Et.zero).i (fe.getD Et.zero).c (fe.getD Et.zero).t (fe.getD Et.zero).b bl3 bn3 bc3 cl3 cn3 cc3 l3 n3 cap3
        generalize ebox w4 (fe.getD Et.zero).k (fe.getD Et.zero).i (fe.getD Et.zero).c (fe.getD Et.zero).t (fe.getD Et.zero).b bl3 bn3 bc3 cl3 cn3 cc3 l3 n3 cap3 = w5 at *
        obtain ⟨y, hy⟩ : ∃ x, x = w4.heap.size := ⟨_, rfl⟩
        rw [← hy] at hY
        rw [← hy]
        have HB5 := Lib.hid hB5
        have hjn := HJ.out
        clear e0 e1 e2 e3 e4 e5 e6 e7 e8 e9 e10
        cases fe with
        | none =>
          clear hY hB5 hy
          go_wp2_with fail
          go_roundw
          case rel =>
            exact ⟨dn.app (.cons k2 i2 c2 t2 b2 cs2 ks .nil), r2, by rw [Eo.len_app, HJJ.out]; simp [Eo.len], by rw [Eo.app_assoc]; exact HKK.out, HFN.out.2 rfl, bel_tr (bel_tr HB1.out HR.out.2.2.2) HB5.out⟩
          case measure => simp [intOf]; omega
        | some x =>
          have hY' : Blk w5 y (V11 x.k x.i x.c x.t x.b bl3 bn3 bc3 cl3 cn3 cc3 l3 n3 cap3) := hY
          have y0 := hY'.cell 0 rfl
          have y1 := hY'.cell 1 rfl
          have y2 := hY'.cell 2 rfl
          have y3 := hY'.cell 3 rfl
          have y4 := hY'.cell 4 rfl
          have y5 := hY'.cell 5 rfl
          have y6 := hY'.cell 6 rfl
          have y7 := hY'.cell 7 rfl
          have y8 := hY'.cell 8 rfl
          have y9 := hY'.cell 9 rfl
          have y10 := hY'.cell 10 rfl
          have HZ9 := Lib.hid ((HZR.out.below HR.out.2.2.2).below hB5)
          have c0 := HZ9.out.cell 0 rfl; have f0 := HZ9.out.free 0 (by simp [Z11]); have c1 := HZ9.out.cell 1 rfl; have f1 := HZ9.out.free 1 (by simp [Z11]); have c2 := HZ9.out.cell 2 rfl; have f2 := HZ9.out.free 2 (by simp [Z11]); have c3 := HZ9.out.cell 3 rfl; have f3 := HZ9.out.free 3 (by simp [Z11]); have c4 := HZ9.out.cell 4 rfl; have f4 := HZ9.out.free 4 (by simp [Z11]); have c5 := HZ9.out.cell 5 rfl; have f5 := HZ9.out.free 5 (by simp [Z11]); have c6 := HZ9.out.cell 6 rfl; have f6 := HZ9.out.free 6 (by simp [Z11]); have c7 := HZ9.out.cell 7 rfl; have f7 := HZ9.out.free 7 (by simp [Z11]); have c8 := HZ9.out.cell 8 rfl; have f8 := HZ9.out.free 8 (by simp [Z11]); have c9 := HZ9.out.cell 9 rfl; have f9 := HZ9.out.free 9 (by simp [Z11]); have c10 := HZ9.out.cell 10 rfl; have f10 := HZ9.out.free 10 (by simp [Z11])
          have HN := Lib.hid (show fd = some x from HFN.out.1)
          have HR5 := Lib.hid (show FoAt (fun q => wr.heap.size ≤ q) w5 x.b.l bl3 bn3 bc3 ∧ Row wr.heap.size w5 1 cl3 cn3 cc3 (I8 x.cs) ∧ (Row wr.heap.size w5 11 l3 n3 cap3 vs3 ∧ EAt (fun q => wr.heap.size ≤ q ∧ blockOf l3 ≠ some q) w5 x.l vs3) ∧ Below wr.heap.size wr w5 from by
            obtain ⟨g1, g2, g3, g4⟩ := HR.out
            exact ⟨g1.same (fun q _ hl => hB5.block q hl) (fun _ hq _ => hq), g2.below hB5, ⟨g3.1.below hB5, EAt.same _ g3.2 (fun q _ hl => hB5.block q hl) (fun _ hq _ => hq)⟩, bel_tr g4 hB5⟩)
          clear hY hY' hB5 hy
          go_wp2_with fail
          rw [HN.out]
          exact ct_fin (w2 := wr) (f := true) Tryz.results33 rfl rfl ⟨HLT.out.1, Nat.lt_of_lt_of_le HLT.out.2.1 HB1.out.size⟩ HBr.out HZ9.out HR5.out.1 HR5.out.2.1 HR5.out.2.2.1 HR5.out.2.2.2
theorem rsAll (m : Int) : ∀ f : Eo, f.All (RASOK m)
  | .nil => trivial
  | .cons _ _ _ _ _ _ kids rest => ⟨rasN (rsAll m kids), rsAll m rest⟩
theorem rasG (m : Int) (kids : Eo) : RASOK m kids := rasN (rsAll m kids)
end Go.Proofs.YtbldidiibkcelaaGreatDoor

/-
  The document's Unwrap (walk). Not a statement of the seat.
-/
namespace Go.Proofs.YtbldidiibkcelaaGreatDoor
open Go.RowKit

end Go.Proofs.YtbldidiibkcelaaGreatDoor

