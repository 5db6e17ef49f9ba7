/-
  clone of an error (walk). Not a statement of the seat.
-/
import Derived.Test.YtbldidiibkcelaaGreatDoorTEClone0
import Derived.Test.YtbldidiibkcelaaGreatDoorTHeldL
namespace Go.Proofs.YtbldidiibkcelaaGreatDoor
open Go.RowKit

def CLEOK (kids : Eo) : Prop := ∀ (k i c : Int) (t : Bs) (b : Dt) (cs : List Int) (bl : Option Addr) (bn bc : Nat) (cl : Option Addr) (cn cc : Nat) (l : Option Addr) (n cap : Nat) (S : Nat → Prop) (w : World), ErAt S w ⟨k, i, c, t, b, cs, kids⟩ bl bn bc cl cn cc l n cap → (∀ x, S x → x < w.heap.size) → sizeF b.l ≤ 100000 → cs.length ≤ 100000 → kids.len ≤ 100000 → okC kids →
  Calls Tryz.prog 57 #[vE k i c t b bl bn bc cl cn cc l n cap] w (CLE k i c t b cs kids w)
def clw2 (w : World) (k i c : Int) (t : Bs) (b : Dt) (bl : Option Addr) (bn bc : Nat) (cl : Option Addr) (cn cc : Nat) (l : Option Addr) (n cap : Nat) : World := zbox (ebox w k i c t b bl bn bc cl cn cc l n cap)
theorem clw2_facts (w : World) (k i c : Int) (t : Bs) (b : Dt) (bl : Option Addr) (bn bc : Nat) (cl : Option Addr) (cn cc : Nat) (l : Option Addr) (n cap : Nat) :
    (Blk (clw2 w k i c t b bl bn bc cl cn cc l n cap) w.heap.size (V11 k i c t b bl bn bc cl cn cc l n cap) ∧ Blk (clw2 w k i c t b bl bn bc cl cn cc l n cap) (w.heap.size + 1) Z11) ∧ Below w.heap.size w (clw2 w k i c t b bl bn bc cl cn cc l n cap) ∧ (clw2 w k i c t b bl bn bc cl cn cc l n cap).heap.size = w.heap.size + 2 := by
  have e1 := ebox_size w k i c t b bl bn bc cl cn cc l n cap
  have h1 := ebox_blk w k i c t b bl bn bc cl cn cc l n cap
  have hb := ebox_below w k i c t b bl bn bc cl cn cc l n cap
  unfold clw2
  generalize ebox w k i c t b bl bn bc cl cn cc l n cap = w1 at *
  have h2 := zbox_blk w1
  have hb2 := zbox_below w1
  have e2 := zbox_size w1
  rw [e1] at h2
  exact ⟨⟨h1.below hb2, h2⟩, hb.trans (hb2.mono hb.size), by omega⟩
theorem er_res {fn : Func} {tmps : Array Value} {w1 : World} {v0 v1 v2 v3 v4 v5 v6 v7 v8 v9 v10 : Value} {b : Nat} (hr : fn.results = #[ResultVar.cell 2 29]) (ht : tmps.getD 2 undef = .pointer (some ⟨b, 0, none⟩)) (h : Blk w1 b Z11) :
    (results fn tmps).run Tryz.prog (st11 w1 b v0 v1 v2 v3 v4 v5 v6 v7 v8 v9 v10) = .ok (.agg #[v0, v1, v2, v3, v4, v5, v6, v7, v8, v9, v10]) (st11 w1 b v0 v1 v2 v3 v4 v5 v6 v7 v8 v9 v10) := by
  have h' := st11_blk h v0 v1 v2 v3 v4 v5 v6 v7 v8 v9 v10
  have ht' : tmps[2]?.getD undef = .pointer (some ⟨b, 0, none⟩) := by simpa using ht
  have c0 := h'.cell 0 rfl; have c1 := h'.cell 1 rfl; have c2 := h'.cell 2 rfl; have c3 := h'.cell 3 rfl; have c4 := h'.cell 4 rfl; have c5 := h'.cell 5 rfl; have c6 := h'.cell 6 rfl; have c7 := h'.cell 7 rfl; have c8 := h'.cell 8 rfl; have c9 := h'.cell 9 rfl; have c10 := h'.cell 10 rfl
  simp [results, hr, go_sem, ht', c0, c1, c2, c3, c4, c5, c6, c7, c8, c9, c10]
/-- the body and the codes of a copy -/
def BC (B : Nat) (w : World) (b : Dt) (cs : List Int) (bl : Option Addr) (bn bc : Nat) (cl : Option Addr) (cn cc : Nat) : Prop := FoAt (fun x => B ≤ x) w b.l bl bn bc ∧ Row B w 1 cl cn cc (I8 cs)
/-- between two rounds -/
def CeRel (kids : Eo) (k i c : Int) (t : Bs) (b : Dt) (bl : Option Addr) (bn bc : Nat) (cl : Option Addr) (cn cc : Nat) (w3 : World) (q : Nat) (t10 : Value) (wr : World) : Prop :=
  ∃ (dn rest : Eo) (l : Option Addr) (cap : Nat) (vs : List Value), t10 = .int .i64 (dn.len : Nat) ∧ kids = dn.app rest ∧ (Row w3.heap.size wr 11 l dn.len cap vs ∧ EAt (fun x => w3.heap.size ≤ x ∧ blockOf l ≠ some x) wr dn vs) ∧ Blk wr q (V11 k i c t b bl bn bc cl cn cc l dn.len cap) ∧ Kept (N1 q) w3 wr
/-- the stores of the body, the codes and no list -/
def cst (w : World) (q : Nat) (b : Dt) (bl : Option Addr) (bn bc : Nat) (cl : Option Addr) (cn cc : Nat) : World :=
  ((((((w.setCell ⟨q, 4, none⟩ (.int .i64 b.k)).setCell ⟨q, 5, none⟩ (.int .i64 b.i)).setCell ⟨q, 6, none⟩ (.int .u64 b.b)).setCell ⟨q, 7, none⟩ (.string ⟨b.t.toArray⟩)).setCell ⟨q, 8, none⟩ (.slice bl bn bc)).setCell ⟨q, 9, none⟩ (.slice cl cn cc)).setCell ⟨q, 10, none⟩ (.slice none 0 0)
theorem cst_blk {w : World} {q : Nat} {k i c : Int} {t : Bs} {b : Dt} {bl : Option Addr} {bn bc : Nat} {cl : Option Addr} {cn cc : Nat} {l : Option Addr} {n cap : Nat} {bl' : Option Addr} {bn' bc' : Nat} {cl' : Option Addr} {cn' cc' : Nat} (h : Blk w q (V11 k i c t b bl bn bc cl cn cc l n cap)) : Blk (cst w q b bl' bn' bc' cl' cn' cc') q (V11 k i c t b bl' bn' bc' cl' cn' cc' none 0 0) := by
  have := ((((((h.set (j := 4) (.int .i64 b.k)).set (j := 5) (.int .i64 b.i)).set (j := 6) (.int .u64 b.b)).set (j := 7) (.string ⟨b.t.toArray⟩)).set (j := 8) (.slice bl' bn' bc')).set (j := 9) (.slice cl' cn' cc')).set (j := 10) (.slice none 0 0)
  simpa [cst, V11] using this
theorem cst_kept {w : World} {q : Nat} (b : Dt) (bl : Option Addr) (bn bc : Nat) (cl : Option Addr) (cn cc : Nat) : Kept (N1 q) w (cst w q b bl bn bc cl cn cc) :=
  (((((((Kept.refl (N1 q) w).put (p := ⟨q, 4, none⟩) (.int .i64 b.k) (fun _ => rfl)).put (p := ⟨q, 5, none⟩) (.int .i64 b.i) (fun _ => rfl)).put (p := ⟨q, 6, none⟩) (.int .u64 b.b) (fun _ => rfl)).put (p := ⟨q, 7, none⟩) (.string ⟨b.t.toArray⟩) (fun _ => rfl)).put (p := ⟨q, 8, none⟩) (.slice bl bn bc) (fun _ => rfl)).put (p := ⟨q, 9, none⟩) (.slice cl cn cc) (fun _ => rfl)).put (p := ⟨q, 10, none⟩) (.slice none 0 0) (fun _ => rfl)
theorem V11_one (k i c : Int) (t : Bs) (b : Dt) (bl : Option Addr) (bn bc : Nat) (cl : Option Addr) (cn cc : Nat) (l : Option Addr) (n cap : Nat) : ∀ u ∈ V11 k i c t b bl bn bc cl cn cc l n cap, u.oneCell' = true := by
  intro u hu
  simp only [V11, List.mem_cons, List.mem_nil_iff, or_false] at hu
  rcases hu with rfl | rfl | rfl | rfl | rfl | rfl | rfl | rfl | rfl | rfl | rfl <;> rfl
theorem ec_fin {w w4 wr : World} {kids : Eo} {k i c : Int} {t : Bs} {b : Dt} {cs : List Int} {bl : Option Addr} {bn bc : Nat} {cl : Option Addr} {cn cc : Nat} {l : Option Addr} {n cap z q : Nat} {vs : List Value} {tmps : Array Value} (ht : tmps.getD 2 undef = .pointer (some ⟨z, 0, none⟩))
    (hlt : q < w4.heap.size ∧ z < w4.heap.size ∧ w.heap.size ≤ q ∧ w.heap.size ≤ z ∧ q ≠ z ∧ w.heap.size + 2 ≤ w4.heap.size ∧ q < w.heap.size + 2 ∧ z < w.heap.size + 2) (hBW : Below w.heap.size w w4) (hZ : Blk wr z Z11) (hR : Row w4.heap.size wr 11 l n cap vs ∧ EAt (fun x => w4.heap.size ≤ x ∧ blockOf l ≠ some x) wr kids vs)
    (hBC : BC (w.heap.size + 2) w4 b cs bl bn bc cl cn cc) (hK : Kept (N1 q) w4 wr) (hsz : w4.heap.size ≤ wr.heap.size) :
    bodyPost Tryz.prog Tryz.f57 (CLE k i c t b cs kids w) Exit.ret { tmps := tmps, defers := [] } (st11 wr z (.int .i64 k) (.int .i64 i) (.int .i64 c) (.string ⟨t.toArray⟩) (.int .i64 b.k) (.int .i64 b.i) (.int .u64 b.b) (.string ⟨b.t.toArray⟩) (.slice bl bn bc) (.slice cl cn cc) (.slice l n cap)) := by
  refine bodyPost_ret (er_res Tryz.results57 ht hZ) rfl ?_
  have h1 := st11_kept (w := wr) (b := z) (.int .i64 k) (.int .i64 i) (.int .i64 c) (.string ⟨t.toArray⟩) (.int .i64 b.k) (.int .i64 b.i) (.int .u64 b.b) (.string ⟨b.t.toArray⟩) (.slice bl bn bc) (.slice cl cn cc) (.slice l n cap)
  generalize st11 wr z (.int .i64 k) (.int .i64 i) (.int .i64 c) (.string ⟨t.toArray⟩) (.int .i64 b.k) (.int .i64 b.i) (.int .u64 b.b) (.string ⟨b.t.toArray⟩) (.slice bl bn bc) (.slice cl cn cc) (.slice l n cap) = wz at *
  have hkz : Below w.heap.size w wz := hBW.trans ((hK.below (B := w.heap.size) (by omega) (fun x hx e => by unfold N1 at e; omega)).trans (h1.below (by omega) (fun x hx e => by unfold N1 at e; omega)))
  refine ⟨bl, bn, bc, cl, cn, cc, l, n, cap, vs, rfl, ?_, ?_, ⟨(hR.1.keep h1 (fun x hx e => ?_)).mono (by omega), EAt.same _ hR.2 (fun x hx hlt => h1.block x hlt (fun e => ?_)) (fun x hx _ => ⟨?_, hx.2⟩)⟩, hkz⟩
  · refine (hBC.1.same (w' := wr) (fun x hx hl => hK.block x hl (fun e => ?_)) (fun x hx _ => hx)).same (fun x hx hl => h1.block x hl (fun e => ?_)) (fun x hx _ => ?_)
    all_goals
      have h9 : w.heap.size + 2 ≤ x := hx
      try unfold N1 at e
      omega
  · exact ((hBC.2.keep hK (fun x hx e => by have := (hBC.2.lt x hx).1; unfold N1 at e; omega)).keep h1 (fun x hx e => by have := (hBC.2.lt x hx).1; unfold N1 at e; omega)).mono (by omega)
  · have := (hR.1.lt x hx).1; unfold N1 at e; omega
  · have := hx.1; unfold N1 at e; omega
  · have := hx.1; omega
set_option maxHeartbeats 16000000 in
set_option maxRecDepth 100000 in
theorem ecloneN {kids : Eo} (hall : kids.All CLEOK) : CLEOK kids := by
  intro k i c t b cs bl bn bc cl cn cc l n cap S w hE hS hsb hsc hsk hok
  obtain ⟨i0, hi, hy0, hy1, hy2⟩ := info_parts errInfo
  obtain ⟨⟨hQ, hZ⟩, hBW, hsz3⟩ := clw2_facts w k i c t b bl bn bc cl cn cc l n cap
  have hlen := hE.2.2.len
  have hcn : cs.length = cn * 1 := by have h1 := hE.2.1.1.1; rw [I8_length] at h1; exact h1
  have hn9 : n ≤ 100000 := by have h1 : kids.len = n := hlen; omega
  have HF := Lib.hid (hE.2.2)
  have HC1 := Lib.hid (fun (wx : World) (hx : Below w.heap.size w wx) => cloneG b.l b.k b.i b.b b.t bl bn bc S wx (hE.1.same (w' := wx) (fun x hx2 hlt => hx.block x hlt) (fun _ hx2 _ => hx2)) (fun x hx2 => Nat.lt_of_lt_of_le (hS x hx2) hx.size) hsb)
  have HC2 := Lib.hid (fun (wx : World) (hx : Below w.heap.size w wx) => clone89 (hE.2.1.1.same0 (w' := wx) (fun x _ _ hlt => hx.block x hlt)) (show cn ≤ 100000 by omega))
  have HS := Lib.hid hS
  have HALL := Lib.hid hall
  have HSZ := Lib.hid (And.intro hsk hok)
  have HLEN := Lib.hid (show kids.len = n from hlen)
  have H3 := Lib.hid hsz3
  have HBW := Lib.hid hBW
  clear hE hS hall hsb hsc hsk hok hlen hcn hBW
  unfold vE
  go_enter Tryz.func57, Tryz.ntmps57
  go_upto_region 2 with (fail)
  change Code.wp _ _ _ _ (clw2 w k i c t b bl bn bc cl cn cc l n cap)
  generalize clw2 w k i c t b bl bn bc cl cn cc l n cap = w3 at *
  obtain ⟨z, hz⟩ : ∃ z, z = w.heap.size + 1 := ⟨_, rfl⟩
  obtain ⟨q, hq⟩ : ∃ q, q = w.heap.size := ⟨_, rfl⟩
  rw [← hq] at hQ
  rw [← hz] at hZ
  rw [← hz, ← hq]
  have HPQ := Lib.hid (And.intro hq (And.intro hz hq))
  have HZ3 := Lib.hid hZ
  have HQ3 := Lib.hid hQ
  clear hZ hQ hz hq hsz3
  have HKEEP := Lib.hid (show ∀ wx, Below w3.heap.size w3 wx → wx.cell? ⟨q, 4, none⟩ = some (.int .i64 b.k) ∧ wx.cell? ⟨q, 5, none⟩ = some (.int .i64 b.i) ∧ wx.cell? ⟨q, 6, none⟩ = some (.int .u64 b.b) ∧ wx.cell? ⟨q, 7, none⟩ = some (.string ⟨b.t.toArray⟩) ∧ wx.cell? ⟨q, 8, none⟩ = some (.slice bl bn bc) ∧ wx.cell? ⟨q, 9, none⟩ = some (.slice cl cn cc) from fun wx hx => by
    have a := HQ3.out.below hx
    exact ⟨a.cell 4 rfl, a.cell 5 rfl, a.cell 6 rfl, a.cell 7 rfl, a.cell 8 rfl, a.cell 9 rfl⟩)
  refine wp_region_D (S := fun wx : World => wx.cell? ⟨q, 4, none⟩ = some (.int .i64 b.k) ∧ wx.cell? ⟨q, 5, none⟩ = some (.int .i64 b.i) ∧ wx.cell? ⟨q, 6, none⟩ = some (.int .u64 b.b) ∧ wx.cell? ⟨q, 7, none⟩ = some (.string ⟨b.t.toArray⟩) ∧ wx.cell? ⟨q, 8, none⟩ = some (.slice bl bn bc) ∧ wx.cell? ⟨q, 9, none⟩ = some (.slice cl cn cc)) 7 (by kernel_rfl) ?_ (fun hHeld => ?_)
  · exact HKEEP.out _ (Below.refl _ _).drew
  refine takeD (i := 0) (v := ?va0) rfl (by kernel_rfl) (by kernel_rfl) (by kernel_rfl) (by kernel_rfl) (by kernel_rfl) (fun _ _ _ h => h) (Or.inl ⟨by rfl, ?hy0⟩) (by assumption) ?rest0
  case hy0 => (intro w9 hSw; (try dsimp only at hSw); go_simp; try with_reducible rfl)
  try simp only [Act.put, List.setIfInBounds_toArray, List.set_cons_zero, List.set_cons_succ]
  refine takeD (i := 1) (v := ?va1) rfl (by kernel_rfl) (by kernel_rfl) (by kernel_rfl) (by kernel_rfl) (by kernel_rfl) (fun _ _ _ h => h) (Or.inl ⟨by rfl, ?hy1⟩) (by assumption) ?rest1
  case hy1 => (intro w9 hSw; (try dsimp only at hSw); go_simp; try with_reducible rfl)
  try simp only [Act.put, List.setIfInBounds_toArray, List.set_cons_zero, List.set_cons_succ]
  refine takeD (i := 3) (v := ?va3) rfl (by kernel_rfl) (by kernel_rfl) (by kernel_rfl) (by kernel_rfl) (by kernel_rfl) (fun _ _ _ h => h) (Or.inl ⟨by rfl, ?hy3⟩) (by assumption) ?rest3
  case hy3 => (intro w9 hSw; (try dsimp only at hSw); go_simp; try with_reducible rfl)
  try simp only [Act.put, List.setIfInBounds_toArray, List.set_cons_zero, List.set_cons_succ]
  refine takeD (i := 4) (v := ?va4) rfl (by kernel_rfl) (by kernel_rfl) (by kernel_rfl) (by kernel_rfl) (by kernel_rfl) (fun _ _ _ h => h) (Or.inl ⟨by rfl, ?hy4⟩) (by assumption) ?rest4
  case hy4 => (intro w9 hSw; (try dsimp only at hSw); go_simp; try with_reducible rfl)
  try simp only [Act.put, List.setIfInBounds_toArray, List.set_cons_zero, List.set_cons_succ]
  refine oneD (i := 2) (by kernel_rfl) rfl (fun K hK => ?_)
  (go_simp; go_at_call 88; (with_reducible refine (HC1.out _ (HBW.out.trans ((Below.refl w3.heap.size w3).drew.mono HBW.out.size))).mono ?_); intro eA wv hcl; obtain ⟨bl1, bn1, bc1, rfl, hFv, hbv⟩ := CLP.cpp hcl; clear hcl; have HFV := Lib.hid hFv; have HBV := Lib.hid (bel_tr (Below.refl w3.heap.size w3).drew hbv); clear hFv hbv)
  refine hK.out _ _ ?_ (fun hHeld2 => ?_)
  · exact HKEEP.out _ HBV.out
  clear hK K hHeld
  try simp only [Act.put, List.setIfInBounds_toArray, List.set_cons_zero, List.set_cons_succ]
  refine takeD (i := 6) (v := ?va6) rfl (by kernel_rfl) (by kernel_rfl) (by kernel_rfl) (by kernel_rfl) (by kernel_rfl) (fun _ _ _ h => h) (Or.inl ⟨by rfl, ?hy6⟩) (by assumption) ?rest6
  case hy6 => (intro w9 hSw; (try dsimp only at hSw); go_simp; try with_reducible rfl)
  try simp only [Act.put, List.setIfInBounds_toArray, List.set_cons_zero, List.set_cons_succ]
  refine oneD (i := 5) (by kernel_rfl) rfl (fun K hK => ?_)
  (go_simp; go_at_call 89; (with_reducible refine (HC2.out _ (HBW.out.trans (HBV.out.mono HBW.out.size))).mono ?_); intro eB wu hcl; obtain ⟨cl1, cc1, rfl, hRu, hbu⟩ := hcl; have HRU := Lib.hid hRu; have HBU := Lib.hid (bel_tr HBV.out hbu); have HBVU := Lib.hid hbu; clear hRu hbu)
  refine hK.out _ _ ?_ (fun hHeld => ?_)
  · exact HKEEP.out _ HBU.out
  clear hK K hHeld2
  try simp only [Act.put, List.setIfInBounds_toArray, List.set_cons_zero, List.set_cons_succ]
  have HQU := Lib.hid (HQ3.out.below HBU.out)
  have u4 := HQU.out.cell 4 rfl
  have g4 := HQU.out.free 4 (by simp [V11])
  have u5 := HQU.out.cell 5 rfl
  have g5 := HQU.out.free 5 (by simp [V11])
  have u6 := HQU.out.cell 6 rfl
  have g6 := HQU.out.free 6 (by simp [V11])
  have u7 := HQU.out.cell 7 rfl
  have g7 := HQU.out.free 7 (by simp [V11])
  have u8 := HQU.out.cell 8 rfl
  have g8 := HQU.out.free 8 (by simp [V11])
  have u9 := HQU.out.cell 9 rfl
  have g9 := HQU.out.free 9 (by simp [V11])
  have u10 := HQU.out.cell 10 rfl
  have g10 := HQU.out.free 10 (by simp [V11])
  refine oneD' (i := 7) (by kernel_rfl) rfl (by kernel_rfl) (fun K hK => ?_)
  go_simp
  refine hK.out _ _ ?_
  clear hK K
  try simp only [Act.put, List.setIfInBounds_toArray, List.set_cons_zero, List.set_cons_succ]
  refine oneD' (i := 8) (by kernel_rfl) rfl (by kernel_rfl) (fun K hK => ?_)
  go_simp
  refine hK.out _ _ ?_
  clear hK K
  try simp only [Act.put, List.setIfInBounds_toArray, List.set_cons_zero, List.set_cons_succ]
  refine oneD' (i := 9) (by kernel_rfl) rfl (by kernel_rfl) (fun K hK => ?_)
  go_simp
  refine hK.out _ _ ?_
  clear hK K
  try simp only [Act.put, List.setIfInBounds_toArray, List.set_cons_zero, List.set_cons_succ]
  refine oneD' (i := 10) (by kernel_rfl) rfl (by kernel_rfl) (fun K hK => ?_)
  go_simp
  refine hK.out _ _ ?_
  clear hK K
  try simp only [Act.put, List.setIfInBounds_toArray, List.set_cons_zero, List.set_cons_succ]
  refine oneD' (i := 11) (by kernel_rfl) rfl (by kernel_rfl) (fun K hK => ?_)
  go_simp
  refine hK.out _ _ ?_
  clear hK K
  try simp only [Act.put, List.setIfInBounds_toArray, List.set_cons_zero, List.set_cons_succ]
  refine endD (by kernel_rfl) ?_
  change Exit.then _ _ _ _ (cst wu q b bl1 bn1 bc1 cl1 cn cc1)
  clear u4 u5 u6 u7 u8 u9 u10 g4 g5 g6 g7 g8 g9 g10 hHeld
  have hQ4 : Blk (cst wu q b bl1 bn1 bc1 cl1 cn cc1) q (V11 k i c t b bl1 bn1 bc1 cl1 cn cc1 none 0 0) := cst_blk HQU.out
  have hk4 := cst_kept (w := wu) (q := q) b bl1 bn1 bc1 cl1 cn cc1
  generalize cst wu q b bl1 bn1 bc1 cl1 cn cc1 = w4 at *
  have HP9 := HPQ.out
  have H39 := H3.out
  have hK34 : Kept (N1 q) w3 w4 := (Kept.of' HBU.out).trans hk4
  have hZ4 := HZ3.out.keep hK34 (by unfold N1; omega)
  have hBW4 : Below w.heap.size w w4 := HBW.out.trans (hK34.below (by omega) (fun x hx e => by unfold N1 at e; omega))
  have hs34 := hK34.size
  have hBC : BC (w.heap.size + 2) w4 b cs bl1 bn1 bc1 cl1 cn cc1 := by
    have hsv := HBV.out.size
    refine ⟨?_, (HRU.out.keep hk4 (fun x hx e => ?_)).mono (by omega)⟩
    · refine (HFV.out.same (w' := wu) (fun x _ hlt => HBVU.out.block x hlt) (fun x hx _ => hx)).same (fun x hx hlt => hk4.block x hlt (fun e => ?_)) (fun x hx _ => ?_)
      · have h1 : w3.heap.size ≤ x := hx
        unfold N1 at e; omega
      · have h1 : w3.heap.size ≤ x := hx
        omega
    · have := (HRU.out.lt x hx).1; unfold N1 at e; omega
  have HF4 := Lib.hid (HF.out.same (w' := w4) (fun x hx hlt => hBW4.block x (HS.out x hx)) (fun _ hx _ => hx))
  have H0 := Lib.hid (show CeRel kids k i c t b bl1 bn1 bc1 cl1 cn cc1 w4 q (.int .i64 0) w4 from ⟨.nil, kids, none, 0, [], rfl, rfl, ⟨Row.nil _ _ _, rfl⟩, hQ4, Kept.refl _ _⟩)
  have HBC := Lib.hid hBC
  have HZ4 := Lib.hid hZ4
  have HBW4 := Lib.hid hBW4
  have HQLT := Lib.hid (show q < w4.heap.size ∧ z < w4.heap.size ∧ w.heap.size ≤ q ∧ w.heap.size ≤ z ∧ q ≠ z ∧ w.heap.size + 2 ≤ w4.heap.size ∧ q < w.heap.size + 2 ∧ z < w.heap.size + 2 from by omega)
  clear hQ4 hk4 hK34 hZ4 hBW4 hs34 hBC HP9 H39 HQU HBVU HBU HRU HFV HBV HQ3 HZ3 HC1 HC2 HBW HF HKEEP H3 HPQ
  go_wp2_with fail
  go_loopw [19] (fun t19 wr => CeRel kids k i c t b bl1 bn1 bc1 cl1 cn cc1 w4 q t19 wr) (fun t19 _ => n - (intOf t19).toNat)
  case atStart => exact H0.out
  case round =>
    obtain ⟨dn, rest, l1, c1, vs, rfl, hk, hR, hQr, hK⟩ := hrel
    have hlen := HLEN.out
    rw [hk, Eo.len_app] at hlen
    have HR := Lib.hid hR
    have HQR := Lib.hid hQr
    have HK := Lib.hid hK
    have q10 := hQr.cell 10 rfl
    have HZR := Lib.hid (HZ4.out.keep hK (by have := HQLT.out; unfold N1; omega))
    have HB3 := Lib.hid hK.size
    clear hR H0
    cases rest with
    | nil =>
      have hj : ¬ (dn.len : Int) < (n : Int) := by have : Eo.len .nil = 0 := rfl; omega
      have hke : kids = dn := by rw [hk, Eo.app_nil]
      have HKE := Lib.hid hke
      have q0 := hQr.cell 0 rfl
      have q1 := hQr.cell 1 rfl
      have q2 := hQr.cell 2 rfl
      have q3 := hQr.cell 3 rfl
      have q4 := hQr.cell 4 rfl
      have q5 := hQr.cell 5 rfl
      have q6 := hQr.cell 6 rfl
      have q7 := hQr.cell 7 rfl
      have q8 := hQr.cell 8 rfl
      have q9 := hQr.cell 9 rfl
      have z0 := HZR.out.cell 0 rfl
      have f0 := HZR.out.free 0 (by simp [Z11])
      have z1 := HZR.out.cell 1 rfl
      have f1 := HZR.out.free 1 (by simp [Z11])
      have z2 := HZR.out.cell 2 rfl
      have f2 := HZR.out.free 2 (by simp [Z11])
      have z3 := HZR.out.cell 3 rfl
      have f3 := HZR.out.free 3 (by simp [Z11])
      have z4 := HZR.out.cell 4 rfl
      have f4 := HZR.out.free 4 (by simp [Z11])
      have z5 := HZR.out.cell 5 rfl
      have f5 := HZR.out.free 5 (by simp [Z11])
      have z6 := HZR.out.cell 6 rfl
      have f6 := HZR.out.free 6 (by simp [Z11])
      have z7 := HZR.out.cell 7 rfl
      have f7 := HZR.out.free 7 (by simp [Z11])
      have z8 := HZR.out.cell 8 rfl
      have f8 := HZR.out.free 8 (by simp [Z11])
      have z9 := HZR.out.cell 9 rfl
      have f9 := HZR.out.free 9 (by simp [Z11])
      have z10 := HZR.out.cell 10 rfl
      have f10 := HZR.out.free 10 (by simp [Z11])
      clear hk hlen hke hQr hK
      go_wp2_with fail
      rw [HKE.out]
      exact ec_fin rfl HQLT.out HBW4.out HZR.out HR.out HBC.out HK.out HB3.out
    | cons k2 i2 c2 t2 b2 cs2 ks r2 =>
      have hlr : (Eo.cons k2 i2 c2 t2 b2 cs2 ks r2).len = r2.len + 1 := rfl
      have hF := HF4.out.same (w' := wr) (fun x hx hlt => hK.block x hlt (fun e => by have := HS.out x hx; have := HQLT.out; unfold N1 at e; omega)) (fun x hx _ => hx)
      rw [hk] at hF
      obtain ⟨bb, off, bl2, bn2, bc2, cl2, cn2, cc2, a2, n2, cp2, rfl, hkF, he, hnb2, hjn⟩ := hF.elem
      have e0 := he 0 (by omega)
      have e1 := he 1 (by omega)
      have e2 := he 2 (by omega)
      have e3 := he 3 (by omega)
      have e4 := he 4 (by omega)
      have e5 := he 5 (by omega)
      have e6 := he 6 (by omega)
      have e7 := he 7 (by omega)
      have e8 := he 8 (by omega)
      have e9 := he 9 (by omega)
      have e10 := he 10 (by omega)
      simp only [V11, List.getElem?_cons_zero, List.getElem?_cons_succ, Nat.add_zero] at e0 e1 e2 e3 e4 e5 e6 e7 e8 e9 e10
      have hj : (dn.len : Int) < (n : Int) := by omega
      have hOK : CLEOK ks := by
        have hal := HALL.out
        rw [hk] at hal
        exact (Eo.All.split dn hal).1
      have hsz9 := HSZ.out
      have hok9 : okC (.cons k2 i2 c2 t2 b2 cs2 ks r2) := okC_app dn (hk ▸ hsz9.2)
      have HC0 := Lib.hid (fun (wx : World) (hx : Below wr.heap.size wr wx) => hOK k2 i2 c2 t2 b2 cs2 bl2 bn2 bc2 cl2 cn2 cc2 a2 n2 cp2 S wx (hkF.same (w' := wx) (fun x _ hlt => hx.block x hlt) (fun _ hx2 _ => hx2)) (fun x hx2 => Nat.lt_of_lt_of_le (HS.out x hx2) (by have := HQLT.out; have := HB3.out; have := hx.size; omega)) hok9.1 hok9.2.1 hok9.2.2.1 hok9.2.2.2.1)
      unfold vE at HC0
      have HKK := Lib.hid hk
      have hdl : dn.len ≤ 100000 := by omega
      generalize hjj : dn.len = j at *
      have HJJ := Lib.hid hjj
      have HJ := Lib.hid hjn
      clear hkF hOK hk hlen hF hlr hsz9 hok9 hjj hQr hK he
      go_wp2_with fail
      have hbB := Blk.new wr #[.int .i64 k2, .int .i64 i2, .int .i64 c2, .string ⟨t2.toArray⟩, .int .i64 b2.k, .int .i64 b2.i, .int .u64 b2.b, .string ⟨b2.t.toArray⟩, .slice bl2 bn2 bc2, .slice cl2 cn2 cc2, .slice a2 n2 cp2] 29
      have hab : Below wr.heap.size wr (wr.alloc (.cells #[.int .i64 k2, .int .i64 i2, .int .i64 c2, .string ⟨t2.toArray⟩, .int .i64 b2.k, .int .i64 b2.i, .int .u64 b2.b, .string ⟨b2.t.toArray⟩, .slice bl2 bn2 bc2, .slice cl2 cn2 cc2, .slice a2 n2 cp2] 29)) := (Below.refl _ _).alloc (Nat.le_refl _) _
      change Code.wp _ _ _ _ (wr.alloc (.cells #[.int .i64 k2, .int .i64 i2, .int .i64 c2, .string ⟨t2.toArray⟩, .int .i64 b2.k, .int .i64 b2.i, .int .u64 b2.b, .string ⟨b2.t.toArray⟩, .slice bl2 bn2 bc2, .slice cl2 cn2 cc2, .slice a2 n2 cp2] 29))
      have hWS := Lib.hid (show (wr.alloc (.cells #[.int .i64 k2, .int .i64 i2, .int .i64 c2, .string ⟨t2.toArray⟩, .int .i64 b2.k, .int .i64 b2.i, .int .u64 b2.b, .string ⟨b2.t.toArray⟩, .slice bl2 bn2 bc2, .slice cl2 cn2 cc2, .slice a2 n2 cp2] 29)).heap.size = wr.heap.size + 1 from by simp)
      generalize (wr.alloc (.cells #[.int .i64 k2, .int .i64 i2, .int .i64 c2, .string ⟨t2.toArray⟩, .int .i64 b2.k, .int .i64 b2.i, .int .u64 b2.b, .string ⟨b2.t.toArray⟩, .slice bl2 bn2 bc2, .slice cl2 cn2 cc2, .slice a2 n2 cp2] 29)) = wb at *
      obtain ⟨bx, hbx⟩ : ∃ bx, bx = wr.heap.size := ⟨_, rfl⟩
      rw [← hbx] at hbB
      rw [← hbx]
      have hxs : wb.heap.size = wr.heap.size + 1 := hWS.out
      have HB5 := Lib.hid hbB
      have HAB := Lib.hid hab
      have HBX := Lib.hid (And.intro hbx hxs)
      have q10b := cellAt hab q10
      have HQB := Lib.hid (HQR.out.below hab)
      have HRB := Lib.hid (And.intro (HR.out.1.below hab) (EAt.same _ HR.out.2 (fun x _ hlt => hab.block x hlt) (fun _ hx _ => hx)))
      have HKB := Lib.hid (HK.out.calm hab)
      have HB3B := Lib.hid (Nat.le_trans HB3.out hab.size)
      have HC := Lib.hid (fun (wx : World) (hx : Below wb.heap.size wb wx) => HC0.out wx (HAB.out.trans (hx.mono HAB.out.size)))
      have HKEEP := Lib.hid (show ∀ wx, Below wb.heap.size wb wx → wx.cell? ⟨q, 10, none⟩ = some (.slice l1 j c1) ∧ (wx.cell? ⟨bx, 0, none⟩ = some (.int .i64 k2) ∧ wx.cell? ⟨bx, 1, none⟩ = some (.int .i64 i2) ∧ wx.cell? ⟨bx, 2, none⟩ = some (.int .i64 c2) ∧ wx.cell? ⟨bx, 3, none⟩ = some (.string ⟨t2.toArray⟩) ∧ wx.cell? ⟨bx, 4, none⟩ = some (.int .i64 b2.k) ∧ wx.cell? ⟨bx, 5, none⟩ = some (.int .i64 b2.i) ∧ wx.cell? ⟨bx, 6, none⟩ = some (.int .u64 b2.b) ∧ wx.cell? ⟨bx, 7, none⟩ = some (.string ⟨b2.t.toArray⟩) ∧ wx.cell? ⟨bx, 8, none⟩ = some (.slice bl2 bn2 bc2) ∧ wx.cell? ⟨bx, 9, none⟩ = some (.slice cl2 cn2 cc2) ∧ wx.cell? ⟨bx, 10, none⟩ = some (.slice a2 n2 cp2)) from fun wx hx => by
        have a := HB5.out.below hx
        exact ⟨cellAt hx q10b, a.cell 0 rfl, a.cell 1 rfl, a.cell 2 rfl, a.cell 3 rfl, a.cell 4 rfl, a.cell 5 rfl, a.cell 6 rfl, a.cell 7 rfl, a.cell 8 rfl, a.cell 9 rfl, a.cell 10 rfl⟩)
      clear hbB hab hbx hxs q10 e0 e1 e2 e3 e4 e5 e6 e7 e8 e9 e10
      refine wp_region_L (S := fun wx : World => wx.cell? ⟨q, 10, none⟩ = some (.slice l1 j c1) ∧ (wx.cell? ⟨bx, 0, none⟩ = some (.int .i64 k2) ∧ wx.cell? ⟨bx, 1, none⟩ = some (.int .i64 i2) ∧ wx.cell? ⟨bx, 2, none⟩ = some (.int .i64 c2) ∧ wx.cell? ⟨bx, 3, none⟩ = some (.string ⟨t2.toArray⟩) ∧ wx.cell? ⟨bx, 4, none⟩ = some (.int .i64 b2.k) ∧ wx.cell? ⟨bx, 5, none⟩ = some (.int .i64 b2.i) ∧ wx.cell? ⟨bx, 6, none⟩ = some (.int .u64 b2.b) ∧ wx.cell? ⟨bx, 7, none⟩ = some (.string ⟨b2.t.toArray⟩) ∧ wx.cell? ⟨bx, 8, none⟩ = some (.slice bl2 bn2 bc2) ∧ wx.cell? ⟨bx, 9, none⟩ = some (.slice cl2 cn2 cc2) ∧ wx.cell? ⟨bx, 10, none⟩ = some (.slice a2 n2 cp2))) (by kernel_rfl) ?_ (fun hHeld => ?_)
      · exact HKEEP.out _ (Below.refl _ _).drew
      refine takeL (i := 0) 1 (v := ?vb0) rfl (by kernel_rfl) (by kernel_rfl) (by kernel_rfl) (by kernel_rfl) (by kernel_rfl) (fun _ _ _ h => h) (Or.inl ⟨by rfl, ?hz0⟩) (by assumption) ?rst0
      case hz0 => (intro w9 hSw; (try dsimp only at hSw); go_simp; try with_reducible rfl)
      try simp only [Act.put, List.setIfInBounds_toArray, List.set_cons_zero, List.set_cons_succ]
      refine takeL (i := 1) 5 (v := ?vb1) rfl (by kernel_rfl) (by kernel_rfl) (by kernel_rfl) (by kernel_rfl) (by kernel_rfl) (fun _ _ _ h => h) (Or.inl ⟨by rfl, ?hz1⟩) (by assumption) ?rst1
      case hz1 => (intro w9 hSw; (try dsimp only at hSw); go_simp; try with_reducible rfl)
      try simp only [Act.put, List.setIfInBounds_toArray, List.set_cons_zero, List.set_cons_succ]
      refine takeL (i := 2) 3 (v := ?vb2) rfl (by kernel_rfl) (by kernel_rfl) (by kernel_rfl) (by kernel_rfl) (by kernel_rfl) (fun _ _ _ h => h) (Or.inl ⟨by rfl, ?hz2⟩) (by assumption) ?rst2
      case hz2 => (intro w9 hSw; (try dsimp only at hSw); go_simp; try with_reducible rfl)
      try simp only [Act.put, List.setIfInBounds_toArray, List.set_cons_zero, List.set_cons_succ]
      refine oneL (i := 3) (by kernel_rfl) rfl (fun K hK => ?_)
      (go_simp; go_at_call 57; (with_reducible refine (HC.out _ (Below.refl _ _).drew).mono ?_); intro eA wv hcl; obtain ⟨blv, bnv, bcv, clv, cnv, ccv, lv, nv, cv, rfl, hEv, hbv⟩ := CLE.er hcl; clear hcl; unfold vE; have HEV := Lib.hid hEv; have HBV := Lib.hid (bel_tr (Below.refl wb.heap.size wb).drew hbv); clear hEv hbv)
      refine hK.out _ _ ?_ (fun hHeld2 => ?_)
      · exact HKEEP.out _ HBV.out
      clear hK K hHeld
      try simp only [Act.put, List.setIfInBounds_toArray, List.set_cons_zero, List.set_cons_succ]
      refine oneL (i := 4) (by kernel_rfl) rfl (fun K hK => ?_)
      go_simp
      refine hK.out _ _ ?_ (fun hHeld => ?_)
      · exact HKEEP.out _ (HBV.out.alloc HBV.out.size _)
      clear hK K hHeld2
      try simp only [Act.put, List.setIfInBounds_toArray, List.set_cons_zero, List.set_cons_succ]
      have HR9 := fun o => Lib.hid ((HRB.out.1.below HBV.out).alloc o)
      have HS9 := Lib.hid (show Src Tryz.prog 11 27 (.slice (some ⟨wv.heap.size, 0, none⟩) 1 1) 1 (V11 k2 i2 c2 t2 b2 blv bnv bcv clv cnv ccv lv nv cv) (wv.alloc (.cells #[.int .i64 k2, .int .i64 i2, .int .i64 c2, .string ⟨t2.toArray⟩, .int .i64 b2.k, .int .i64 b2.i, .int .u64 b2.b, .string ⟨b2.t.toArray⟩, .slice blv bnv bcv, .slice clv cnv ccv, .slice lv nv cv] 29)) from Src.oneRow (P := Tryz.prog) (w := wv) (tx := 27) Tryz.underlying27 (V11 k2 i2 c2 t2 b2 blv bnv bcv clv cnv ccv lv nv cv) #[.int .i64 k2, .int .i64 i2, .int .i64 c2, .string ⟨t2.toArray⟩, .int .i64 b2.k, .int .i64 b2.i, .int .u64 b2.b, .string ⟨b2.t.toArray⟩, .slice blv bnv bcv, .slice clv cnv ccv, .slice lv nv cv] 29 (g := wv.heap.size) rfl rfl rfl (V11_one _ _ _ _ _ _ _ _ _ _ _ _ _ _))
      have hle9 : w4.heap.size ≤ wv.heap.size := Nat.le_trans HB3B.out HBV.out.size
      refine oneL (i := 5) (by kernel_rfl) rfl (fun K hK => ?_)
      refine step_append_row rfl _ _ 27 27 rfl 29 i0 (.agg #[.int .i64 0, .int .i64 0, .int .i64 0, .string ⟨#[]⟩, .int .i64 0, .int .i64 0, .int .u64 0, .string ⟨#[]⟩, .slice none 0 0, .slice none 0 0, .slice none 0 0]) 11 152 Tryz.underlying27 hi hy0 hy1 hy2 rfl rfl (HR9 _).out 1 _ HS9.out (by unfold maxLen; omega) (by omega) (by simp; omega) ?_
      intro a4 c4 w5 hrow hgr hbk
      have HR4 := Lib.hid hrow
      have HG4 := Lib.hid hgr
      have HB4 := Lib.hid hbk
      clear hrow hgr hbk
      have hlp : ∀ x, blockOf l1 = some x → w4.heap.size ≤ x := fun x hx => (HRB.out.1.lt x hx).1
      have hkeep4 : ∀ x, x < w4.heap.size → w5.heap[x]? = wb.heap[x]? := fun x hx => by
        have hxr : x < wb.heap.size := Nat.lt_of_lt_of_le hx HB3B.out
        rw [HG4.out.block x (by have := HBV.out.size; simp; omega) (fun e => by have := hlp x e.symm; omega), Below.heap_alloc _ _ _ (by have := HBV.out.size; omega), HBV.out.block x hxr]
      have hq9 : q < w4.heap.size := HQLT.out.1
      have hbx4 : w5.heap[bx]? = wb.heap[bx]? := by
        have hlt : bx < wb.heap.size := HB5.out.1
        rw [HG4.out.block bx (by have := HBV.out.size; simp; omega) (fun e => by have := (HR.out.1.lt bx e.symm).2; have := HBX.out; omega), Below.heap_alloc _ _ _ (by have := HBV.out.size; omega), HBV.out.block bx hlt]
      have hB4 := HB5.out.same hbx4
      have hQ4 := HQB.out.same (hkeep4 q hq9)
      have HQ4 := Lib.hid hQ4
      have hq4 := hQ4.cell 10 rfl
      have hf4 := hQ4.free 10 (by simp [V11])
      have hS4 : w5.cell? ⟨q, 10, none⟩ = some (.slice l1 j c1) ∧ (w5.cell? ⟨bx, 0, none⟩ = some (.int .i64 k2) ∧ w5.cell? ⟨bx, 1, none⟩ = some (.int .i64 i2) ∧ w5.cell? ⟨bx, 2, none⟩ = some (.int .i64 c2) ∧ w5.cell? ⟨bx, 3, none⟩ = some (.string ⟨t2.toArray⟩) ∧ w5.cell? ⟨bx, 4, none⟩ = some (.int .i64 b2.k) ∧ w5.cell? ⟨bx, 5, none⟩ = some (.int .i64 b2.i) ∧ w5.cell? ⟨bx, 6, none⟩ = some (.int .u64 b2.b) ∧ w5.cell? ⟨bx, 7, none⟩ = some (.string ⟨b2.t.toArray⟩) ∧ w5.cell? ⟨bx, 8, none⟩ = some (.slice bl2 bn2 bc2) ∧ w5.cell? ⟨bx, 9, none⟩ = some (.slice cl2 cn2 cc2) ∧ w5.cell? ⟨bx, 10, none⟩ = some (.slice a2 n2 cp2)) := ⟨hq4, hB4.cell 0 rfl, hB4.cell 1 rfl, hB4.cell 2 rfl, hB4.cell 3 rfl, hB4.cell 4 rfl, hB4.cell 5 rfl, hB4.cell 6 rfl, hB4.cell 7 rfl, hB4.cell 8 rfl, hB4.cell 9 rfl, hB4.cell 10 rfl⟩
      refine hK.out _ _ hS4 (fun hHeld2 => ?_)
      clear hK K hHeld hlp hkeep4 hq9 hbx4 hB4 hQ4
      try simp only [Act.put, List.setIfInBounds_toArray, List.set_cons_zero, List.set_cons_succ]
      refine oneL (i := 6) (by kernel_rfl) rfl (fun K hK => ?_)
      go_simp
      refine hK.out _ _ hS4 (fun hHeld => ?_)
      clear hK K hHeld2
      try simp only [Act.put, List.setIfInBounds_toArray, List.set_cons_zero, List.set_cons_succ]
      refine lastL (i := 7) (by kernel_rfl) rfl (by kernel_rfl) (by kernel_rfl) (fun K hK => ?_)
      go_simp
      refine hK.out _ _ ?_
      clear hK K hHeld hS4
      go_wp2_with fail
      go_roundw
      case rel =>
        refine ⟨dn.app (.cons k2 i2 c2 t2 b2 cs2 ks .nil), r2, a4, c4, vs ++ V11 k2 i2 c2 t2 b2 blv bnv bcv clv cnv ccv lv nv cv, ?_, by rw [Eo.app_assoc]; exact HKK.out, ?_, ?_, ?_⟩
        · rw [Eo.len_app, HJJ.out]; simp [Eo.len]
        · have hl : (dn.app (.cons k2 i2 c2 t2 b2 cs2 ks .nil)).len = j + 1 := by rw [Eo.len_app, HJJ.out]; rfl
          rw [hl]
          refine ⟨HR4.out.put (p := ⟨q, 10, none⟩) (by show q < _; exact HQLT.out.1) _, ?_⟩
          refine EAt.same _ (ce_next HRB.out.1 HRB.out.2 HB3B.out HEV.out HBV.out HG4.out HB4.out) (fun x hx hlt => ?_) (fun x hx _ => hx)
          exact (Kept.put (N := N1 q) (Kept.refl _ w5) (p := ⟨q, 10, none⟩) (.slice a4 (j + 1) c4) (fun _ => rfl)).block x hlt (by have := HQLT.out.1; unfold N1; omega)
        · have hl : (dn.app (.cons k2 i2 c2 t2 b2 cs2 ks .nil)).len = j + 1 := by rw [Eo.len_app, HJJ.out]; rfl
          rw [hl]
          simpa [V11] using HQ4.out.set (j := 10) (.slice a4 (j + 1) c4)
        · exact (kept_grow HKB.out HBV.out HG4.out (fun x hx => (HRB.out.1.lt x hx).1)).put (p := ⟨q, 10, none⟩) _ (fun _ => rfl)
      case measure => simp [intOf]; have := HJ.out; omega
theorem ecAll : ∀ f : Eo, f.All CLEOK
  | .nil => trivial
  | .cons _ _ _ _ _ _ kids rest => ⟨ecloneN (ecAll kids), ecAll rest⟩
theorem ecloneG (kids : Eo) : CLEOK kids := ecloneN (ecAll kids)
end Go.Proofs.YtbldidiibkcelaaGreatDoor

