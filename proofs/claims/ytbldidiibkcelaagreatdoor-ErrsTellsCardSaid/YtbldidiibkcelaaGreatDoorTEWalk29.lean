/-
  Walk's visitor (walk). Not a statement of the seat.
-/
import Derived.Test.YtbldidiibkcelaaGreatDoorTEVisA
namespace Go.Proofs.YtbldidiibkcelaaGreatDoor
open Go.RowKit

set_option maxRecDepth 100000 in
set_option maxHeartbeats 4000000 in
/-- slices.Clone of a way -/
theorem clone65 {cs : List Int} {a : Option Addr} {n c : Nat} {w : World} (h : Rd w 1 a n c (I8 cs)) (hn : n ≤ 100000) :
    Calls Tryz.prog 65 #[.slice a n c] w (fun e w' => ∃ a' c', e = .returned (.slice a' n c') ∧ Row w.heap.size w' 1 a' n c' (I8 cs) ∧ Below w.heap.size w w') := by
  obtain ⟨i0, hi, hy0, hy1, hy2⟩ := info_parts intInfo3
  cases a with
  | none =>
    obtain rfl := h.noneLen
    have hl : cs = [] := by have := h.1; rw [I8_length] at this; exact List.length_eq_zero_iff.1 (by omega)
    subst hl
    have he : ∀ w : World, (binOp .eql 49 (.slice none 0 c) (.slice none 0 0)).run Tryz.prog w = .ok (.bool true) w := fun _ => rfl
    clear h
    go_enter Tryz.func65, Tryz.ntmps65
    go_wp2_with fail
    go_ret
    exact ⟨none, 0, rfl, Row.nil _ _ _, Below.refl _ _⟩
  | some a0 =>
    have he : ∀ w : World, (binOp .eql 49 (.slice (some a0) n c) (.slice none 0 0)).run Tryz.prog w = .ok (.bool false) w := fun _ => rfl
    have HR := Lib.hid (show Row w.heap.size (w.alloc (.cells #[] 3)) 1 (some ⟨w.heap.size, 0, none⟩) 0 0 [] from ⟨rfl, Nat.le_refl _, Nat.zero_le _, .inr ⟨_, _, rfl, Nat.le_refl _, by simp, fun j hj => absurd hj (by simp), fun j hj => absurd hj (by simp)⟩⟩)
    have hb : Below w.heap.size w (w.alloc (.cells #[] 3)) := (Below.refl _ _).alloc (Nat.le_refl _) _
    have HS := Lib.hid (Src.ofRd (P := Tryz.prog) (w := w.alloc (.cells #[] 3)) (tx := 49) Tryz.underlying49 (h.same0 (w' := w.alloc (.cells #[] 3)) (fun x _ _ hlt => hb.block x hlt)) (I8_one _))
    clear h hb
    go_enter Tryz.func65, Tryz.ntmps65
    go_wp2_with (at_builtin; refine wpList_append_row rfl _ _ 49 49 rfl 3 i0 (.int .i64 0) 1 8 Tryz.underlying49 hi hy0 hy1 hy2 rfl rfl HR.out n _ HS.out (by unfold maxLen; omega) (by omega) (by simp) ?_; intro a4 c4 w4 hrow hgr hbk; have HR4 := Lib.hid hrow; have HG4 := Lib.hid hgr; clear hrow hgr hbk)
    go_ret
    rw [show 0 + n = n from by omega, List.nil_append] at HR4
    refine ⟨a4, c4, by simp, HR4.out, ?_⟩
    exact Kept.below (((Kept.refl (fun x => w.heap.size ≤ x) w).alloc _).grown HG4.out (fun b h hb => by cases h; exact Nat.le_refl _)) (Nat.le_refl _) (fun b hb e => by omega)
theorem WYs.and2 {S S' : Nat → Prop} {w w' : World} : ∀ (ws : List (List Int)) {vs : List Value}, WYs S w ws vs → WYs S' w' ws vs → WYs (fun x => S x ∧ S' x) w ws vs
  | [], _, h, _ => h
  | p :: ps, _, h, h' => by
    obtain ⟨a, n, c, vs', rfl, ⟨h1, h2⟩, h3⟩ := h
    obtain ⟨a2, n2, c2, vs2, he, ⟨_, h5⟩, h6⟩ := h'
    cases he
    exact ⟨a, n, c, vs', rfl, ⟨h1, fun x hn hx => ⟨h2 x hn hx, h5 x hn hx⟩⟩, WYs.and2 ps h3 h6⟩
/-- the visitor's state: the ways so far, the block of their row -/
def stW (ob : Nat) (s : List (List Int) × Option Nat) (w : World) : Prop :=
  ∃ (a : Option Addr) (n c : Nat) (vs : List Value), Blk w ob [.slice a n c] ∧ blockOf a = s.2 ∧ n = s.1.length ∧ n ≤ 100000 ∧ Row 0 w 1 a n c vs ∧ s.2 ≠ some ob ∧ WYs (fun x => x ≠ ob ∧ s.2 ≠ some x) w s.1 vs
def nW (ob : Nat) (s : List (List Int) × Option Nat) (x : Nat) : Prop := x = ob ∨ s.2 = some x
def stepW (a : List (List Int)) (_ : Et) (way : List Int) : List (List Int) × Bool := (a ++ [way], true)
def roomW (a : List (List Int)) (n : Nat) : Prop := a.length + n ≤ 100000
theorem vokW (ob : Nat) : VOK (stW ob) (nW ob) := by
  refine ⟨fun s w w' h hB => ?_, fun s w x h hx => ?_⟩
  · obtain ⟨a, n, c, vs, h1, h2, h3, h4, h5, h6, h7⟩ := h
    exact ⟨a, n, c, vs, h1.below hB, h2, h3, h4, h5.below hB, h6, WYs.same _ h7 (fun x _ hl => hB.block x hl) (fun _ hx _ => hx)⟩
  · obtain ⟨a, n, c, vs, h1, h2, h3, h4, h5, h6, h7⟩ := h
    rcases hx with rfl | hx
    · exact h1.1
    · exact (h5.lt x (h2.trans hx)).2
theorem rokW : ROK stepW roomW := by
  refine ⟨fun a n m h hr => ?_, fun a e way n hr => ?_⟩
  · unfold roomW at *; omega
  · unfold roomW stepW at *; simp; omega
set_option maxRecDepth 100000 in
set_option maxHeartbeats 8000000 in
theorem ca64 (S : Nat → Prop) (ob : Nat) : CA64 (stW ob) (nW ob) Prod.fst stepW roomW S ob := by
  intro e v s way wa wn wc w hs hS hv hr hk hRow hwf hwn hroom
  obtain ⟨i4, hi4, hb0, hb1, hb2⟩ := info_parts sliceInfo49
  obtain ⟨ws, rb⟩ := s
  obtain ⟨a, n, c, vs, h1, h2, h3, h4, h5, h6, h7⟩ := hs
  dsimp only at h2 h3 h6 h7
  have hn1 : n + 1 ≤ 100000 := by have h9 : ws.length + 1 ≤ 100000 := hroom; omega
  have x0 := h1.cell 0 rfl
  have HC := Lib.hid (fun (wx : World) (hx : Below w.heap.size w wx) => clone65 (hRow.rd.same0 (w' := wx) (fun x _ _ hlt => hx.block x hlt)) (show wn ≤ 100000 by omega))
  have HST := Lib.hid (And.intro h1 (And.intro h2 (And.intro h3 (And.intro h5 (And.intro h6 h7)))))
  have HK := Lib.hid (show ∀ wx, Below w.heap.size w wx → wx.cell? ⟨ob, 0, none⟩ = some (.slice a n c) from fun wx hx => cellAt hx x0)
  clear h1 h2 h3 h4 h5 h6 h7 hS hv hr hk hRow hwf hroom
  go_enter Tryz.func64, Tryz.ntmps64
  go_upto_region 1 with (fail)
  refine wp_region_L (S := fun wx : World => wx.cell? ⟨ob, 0, none⟩ = some (.slice a n c)) (by kernel_rfl) ?_ (fun hHeld => ?_)
  · exact HK.out _ (Below.refl _ _).drew
  refine takeL (i := 0) 4 (v := ?va0) rfl (by kernel_rfl) (by kernel_rfl) (by kernel_rfl) (by kernel_rfl) (by kernel_rfl) (fun _ _ _ h => h) (Or.inl ⟨by rfl, ?hy0⟩) (by assumption) ?rest0
  case hy0 => (intro w9 hSw; (try dsimp only at hSw); go_simp; try with_reducible rfl)
  try simp only [Act.put, List.setIfInBounds_toArray, List.set_cons_zero, List.set_cons_succ]
  refine takeL (i := 1) 2 (v := ?va1) rfl (by kernel_rfl) (by kernel_rfl) (by kernel_rfl) (by kernel_rfl) (by kernel_rfl) (fun _ _ _ h => h) (Or.inl ⟨by rfl, ?hy1⟩) (by assumption) ?rest1
  case hy1 => (intro w9 hSw; (try dsimp only at hSw); go_simp; try with_reducible rfl)
  try simp only [Act.put, List.setIfInBounds_toArray, List.set_cons_zero, List.set_cons_succ]
  refine oneL (i := 2) (by kernel_rfl) rfl (fun K hK => ?_)
  (go_simp; go_at_call 65; (with_reducible refine (HC.out _ (Below.refl _ _).drew).mono ?_); intro eA wv hcl; obtain ⟨a9, c9, rfl, hR9, hB9⟩ := hcl; have HR9 := Lib.hid hR9; have HBV := Lib.hid (bel_tr (Below.refl w.heap.size w).drew hB9); clear hR9 hB9)
  refine hK.out _ _ ?_ (fun hHeld2 => ?_)
  · exact HK.out _ HBV.out
  clear hK K hHeld
  try simp only [Act.put, List.setIfInBounds_toArray, List.set_cons_zero, List.set_cons_succ]
  refine oneL (i := 3) (by kernel_rfl) rfl (fun K hK => ?_)
  go_simp
  refine hK.out _ _ ?_ (fun hHeld => ?_)
  · exact HK.out _ (HBV.out.alloc HBV.out.size _)
  clear hK K hHeld2
  try simp only [Act.put, List.setIfInBounds_toArray, List.set_cons_zero, List.set_cons_succ]
  have HRW := fun o => Lib.hid ((HST.out.2.2.2.1.below HBV.out).alloc o)
  have HS9 := Lib.hid (Src.oneAt (P := Tryz.prog) (w := wv) (tx := 40) Tryz.underlying40 (.slice a9 wn c9) 49 rfl (g := wv.heap.size) rfl)
  refine oneL (i := 4) (by kernel_rfl) rfl (fun K hK => ?_)
  refine step_append_row rfl _ _ 40 40 rfl 49 i4 (.slice none 0 0) 1 24 Tryz.underlying40 hi4 hb0 hb1 hb2 rfl rfl (HRW _).out 1 _ HS9.out (by unfold maxLen; omega) (by omega) (Nat.zero_le _) ?_
  intro a4 c4 w4 hrow hgr hbk
  have hq4 : w4.heap[ob]? = wv.heap[ob]? := by
    have h9 : ob < wv.heap.size := Nat.lt_of_lt_of_le HST.out.1.1 HBV.out.size
    rw [hgr.block ob (by simp; omega) (fun e => HST.out.2.2.2.2.1 (by rw [← HST.out.2.1]; exact e.symm)), Below.heap_alloc _ _ _ h9]
  have hQ4 := (HST.out.1.below HBV.out).same hq4
  have HR4 := Lib.hid hrow
  have HG4 := Lib.hid hgr
  have HB4 := Lib.hid hbk
  have HQ4 := Lib.hid hQ4
  have q0 := hQ4.cell 0 rfl
  have f0 := hQ4.free 0 (by simp)
  refine hK.out _ _ q0 (fun hHeld2 => ?_)
  clear hK K hHeld hrow hgr hbk hq4 hQ4
  try simp only [Act.put, List.setIfInBounds_toArray, List.set_cons_zero, List.set_cons_succ]
  refine lastL (i := 5) (by kernel_rfl) rfl (by kernel_rfl) (by kernel_rfl) (fun K hK => ?_)
  go_simp
  refine hK.out _ _ ?_
  clear hK K
  go_wp2_with fail
  go_ret
  obtain ⟨g1, g2, g3, g5, g6, g7⟩ := HST.out
  have hK1 : Kept (nW ob (ws, rb)) w w4 := (((Kept.refl _ w).calm HBV.out).alloc _).grown HG4.out (fun b h _ => .inr (by rw [← g2]; exact h))
  have hK2 : Kept (nW ob (ws, rb)) w (w4.setCell ⟨ob, 0, none⟩ (.slice a4 (n + 1) c4)) := hK1.put (p := ⟨ob, 0, none⟩) _ (fun _ => .inl rfl)
  have hob4 : blockOf a4 ≠ some ob := fun e => by
    rcases HB4.out with h | h
    · exact g6 (by rw [← g2, ← h]; exact e)
    · rw [h] at e
      cases e
      have h1 := g1.1
      have h2 := HBV.out.size
      simp at h1
      omega
  have hwy : WYs (fun x => x ≠ ob ∧ blockOf a4 ≠ some x) w4 (ws ++ [way]) (vs ++ [.slice a9 wn c9]) := by
    have h := wy_next (B := 0) g5 (WYs.same _ g7 (fun _ _ _ => rfl) (fun x hx _ => ⟨Nat.zero_le _, by rw [g2]; exact hx.2⟩)) (Nat.zero_le _) HR9.out.rd (fun x _ hx => (HR9.out.lt x hx).1) HBV.out HG4.out HB4.out
    have hv := WYs.app ws (S := fun x => x ≠ ob) (WYs.same (w' := wv) _ g7 (fun x _ hl => HBV.out.block x hl) (fun x hx _ => hx.1)) (ws' := [way]) (vs' := [.slice a9 wn c9]) ⟨a9, wn, c9, [], rfl, ⟨HR9.out.rd, fun x _ hx e => by have h1 : w.heap.size ≤ x := (HR9.out.lt x hx).1; have h2 := g1.1; omega⟩, rfl⟩
    exact WYs.same _ (WYs.and2 _ h hv) (fun _ _ _ => rfl) (fun x hx _ => ⟨hx.2, hx.1.2⟩)
  refine ⟨(ws ++ [way], blockOf a4), rfl, rfl, ⟨a4, n + 1, c4, vs ++ [.slice a9 wn c9], by simpa using HQ4.out.set (j := 0) (.slice a4 (n + 1) c4), rfl, by simp [g3], hn1, HR4.out.keep ((Kept.refl (N1 ob) w4).put (p := ⟨ob, 0, none⟩) (.slice a4 (n + 1) c4) (fun _ => rfl)) (fun x hx e => hob4 (by rw [hx]; unfold N1 at e; rw [e])), hob4, ?_⟩, hK2, fun x hx => ?_⟩
  · exact WYs.same _ hwy (fun x hx hl => ((Kept.refl (N1 ob) w4).put (p := ⟨ob, 0, none⟩) (.slice a4 (n + 1) c4) (fun _ => rfl)).block x hl (fun e => hx.1 e)) (fun x hx _ => hx)
  · rcases hx with rfl | hx
    · exact .inl (.inl rfl)
    · rcases HB4.out with h | h
      · exact .inl (.inr (by show rb = some x; rw [← g2, ← h]; exact hx))
      · have hx' : blockOf a4 = some x := hx
        rw [h] at hx'
        cases hx'
        have h2 := HBV.out.size
        refine .inr ?_
        simp
        omega
end Go.Proofs.YtbldidiibkcelaaGreatDoor

/-
  Walk (walk). Not a statement of the seat.
-/
namespace Go.Proofs.YtbldidiibkcelaaGreatDoor
open Go.RowKit

theorem visW_L : ∀ (f : Eo) (a : List (List Int)) (way : List Int) (j : Nat), visL stepW f a way j = (a ++ (waysL f j).map (fun p => way ++ p), true)
  | .nil, a, way, j => by simp [visL, waysL]
  | .cons k i c t b cs ks rest, a, way, j => by
    have h1 : vis1 stepW a ⟨k, i, c, t, b, cs, ks⟩ (way ++ [(j : Int)]) = (a ++ (ways1 k ks).map (fun p => way ++ ((j : Int) :: p)), true) := by
      unfold vis1 ways1
      dsimp only
      by_cases hk : k = 0
      · rw [if_pos hk, if_pos hk]; simp
      · rw [if_neg hk, if_neg hk]
        simp [stepW, visW_L ks]
    rw [visL_cons, h1, if_pos rfl, visW_L rest, waysL_cons]
    simp [List.append_assoc, Function.comp_def]
theorem visW (e : Et) : vis1 stepW [] e [] = (ways1 e.k e.l, true) := by
  unfold vis1 ways1
  by_cases hk : e.k = 0
  · rw [if_pos hk, if_pos hk]
  · rw [if_neg hk, if_neg hk]
    simp [stepW, visW_L e.l]
/-- what Walk comes to: rows of numbers that may be read -/
def WYR (ws : List (List Int)) (w : World) (r : Ending) (w' : World) : Prop :=
  ∃ a n c vs, r = .returned (.slice a n c) ∧ n = ws.length ∧ Rd w' 1 a n c vs ∧ WYs (fun _ => True) w' ws vs ∧ Below w.heap.size w w'
set_option maxRecDepth 100000 in
set_option maxHeartbeats 16000000 in
theorem walk29 {S : Nat → Prop} {k i c : Int} {t : Bs} {b : Dt} {cs : List Int} {kids : Eo} {bl : Option Addr} {bn bc : Nat} {cl : Option Addr} {cn cc : Nat} {l : Option Addr} {n cap : Nat} {w : World} (hE : ErAt S w ⟨k, i, c, t, b, cs, kids⟩ bl bn bc cl cn cc l n cap) (hS : ∀ x, S x → x < w.heap.size) (hr : rightE ⟨k, i, c, t, b, cs, kids⟩ = true) (hd : ehi kids ≤ 1000) (hz : 1 + esz kids ≤ 100000) :
    Calls Tryz.prog 29 #[vE k i c t b bl bn bc cl cn cc l n cap] w (WYR (ways1 k kids) w) := by
  have hP := ebox_blk w k i c t b bl bn bc cl cn cc l n cap
  have hB := ebox_below w k i c t b bl bn bc cl cn cc l n cap
  have hs1 := ebox_size w k i c t b bl bn bc cl cn cc l n cap
  have hmf : ∀ (fn : Fn) (first cap : Array Value) (w : World), (Instr.makeFunc fn first cap).run Tryz.prog w = .ok (.func fn first cap) w := fun _ _ _ _ => rfl
  obtain ⟨p, hp⟩ : ∃ x, x = w.heap.size := ⟨_, rfl⟩
  obtain ⟨ob, hob⟩ : ∃ x, x = w.heap.size + 1 := ⟨_, rfl⟩
  have HEV := Lib.hid (fun (wx : World) (hx : Below w.heap.size w wx) (h0 : ob < wx.heap.size) => valueEV (N := nW ob ([], none)) (hE.same (w' := wx) (fun x _ hl => hx.block x hl) (fun x hx2 _ => hx2)) (fun x h => by
    rcases h with h | h
    · omega
    · cases h))
  have HSO := Lib.hid (show ∀ x, S x → x < w.heap.size ∧ x ≠ ob from fun x hx => by have := hS x hx; omega)
  have hv := visW ⟨k, i, c, t, b, cs, kids⟩
  have HWV := Lib.hid (fun (v : Value) (wx : World) (hst : stW ob ([], none) wx) (hS1 : ∀ x, S x → x < wx.heap.size ∧ ¬ nW ob ([], none) x) (hev : EVAt S (nW ob ([], none)) wx ⟨k, i, c, t, b, cs, kids⟩ v) =>
    waG64 (vokW ob) rokW (ca64 S ob) kids k i c t b cs v hr ([], none) [] none 0 0 wx hst hS1 hev (Row.nil 0 _ 1) (fun x hx => by cases hx) (.inl (by show 0 + ehi kids ≤ 1000; omega)) (.inl (by show (0 : Nat) + (1 + esz kids) ≤ 100000; omega)))
  dsimp only at HWV hv
  rw [hv] at HWV
  generalize ways1 k kids = ws at *
  unfold vE at HEV ⊢
  unfold F64 at HWV
  clear hE hS hr hd hz hv
  go_enter Tryz.func29, Tryz.ntmps29
  go_upto_region 2 with (fail)
  change Code.wp _ _ _ _ ((ebox w k i c t b bl bn bc cl cn cc l n cap).alloc (.cells #[.slice none 0 0] 40))
  generalize ebox w k i c t b bl bn bc cl cn cc l n cap = w0 at *
  have hO := Blk.new w0 #[.slice none 0 0] 40
  have hB1 : Below w0.heap.size w0 (w0.alloc (.cells #[.slice none 0 0] 40)) := (Below.refl _ _).alloc (Nat.le_refl _) _
  have hs2 : (w0.alloc (.cells #[.slice none 0 0] 40)).heap.size = w0.heap.size + 1 := by simp
  generalize w0.alloc (.cells #[.slice none 0 0] 40) = w1 at *
  rw [hs1] at hO
  rw [← hob, ← hp]
  rw [← hob] at hO
  rw [← hp] at hP
  have hP1 := hP.below hB1
  have x0 := hP1.cell 0 rfl
  have x1 := hP1.cell 1 rfl
  have x2 := hP1.cell 2 rfl
  have x3 := hP1.cell 3 rfl
  have x4 := hP1.cell 4 rfl
  have x5 := hP1.cell 5 rfl
  have x6 := hP1.cell 6 rfl
  have x7 := hP1.cell 7 rfl
  have x8 := hP1.cell 8 rfl
  have x9 := hP1.cell 9 rfl
  have x10 := hP1.cell 10 rfl
  have HB := Lib.hid (bel_tr hB hB1)
  have HO := Lib.hid hO
  have HLT := Lib.hid (show ob < w1.heap.size ∧ w.heap.size ≤ ob from by omega)
  have HSTF := Lib.hid (show ∀ w2, Below w1.heap.size w1 w2 → stW ob ([], none) w2 from fun w2 hB2 => ⟨none, 0, 0, [], HO.out.below hB2, rfl, rfl, Nat.zero_le _, Row.nil _ _ _, (fun e => by cases e), rfl⟩)
  have HSF := Lib.hid (show ∀ w2 : World, Below w.heap.size w w2 → ∀ x, S x → x < w2.heap.size ∧ ¬ nW ob ([], none) x from fun w2 hB2 x hx => ⟨Nat.lt_of_lt_of_le (HSO.out x hx).1 hB2.size, fun e => by
    rcases e with e | e
    · exact (HSO.out x hx).2 e
    · cases e⟩)
  clear hP hB hs1 hO hB1 hs2 hP1 hp hob
  go_upto_region 3 with (first
    | (go_at_call 50; (with_reducible refine (HEV.out _ HB.out HLT.out.1).mono ?_); intro r2 w2 h2; obtain ⟨v2, rfl, hv2, hB2⟩ := h2
       have HV2 := Lib.hid hv2; have HB2 := Lib.hid (bel_tr HB.out hB2)
       have HST2 := Lib.hid (HSTF.out w2 hB2); have HS2 := Lib.hid (HSF.out w2 HB2.out)
       clear hv2 hB2)
    | (go_at_call 52; (with_reducible refine (HWV.out _ _ HST2.out HS2.out HV2.out).mono ?_); intro r3 w3 hI; obtain ⟨s3, ha3, rfl, hK3⟩ := hI; have HK3 := Lib.hid hK3; have HA3 := Lib.hid ha3; clear hK3 ha3))
  obtain ⟨ws3, rb3⟩ := s3
  have ha := HA3.out
  dsimp only at ha
  subst ha
  obtain ⟨a, n3, c3, vs, g1, g2, g3, g4, g5, g6, g7⟩ := HK3.out.s'
  have q0 := g1.cell 0 rfl
  have HR := Lib.hid (show WYR ws3 w (.returned (.slice a n3 c3)) w3 from ⟨a, n3, c3, vs, rfl, g3, g5.rd, WYs.same _ g7 (fun _ _ _ => rfl) (fun _ _ _ => trivial), HB2.out.trans (HK3.out.k.below HB2.out.size (fun x hx e => by
    have h9 := HLT.out.2
    rcases e with e | e
    · omega
    · cases e))⟩)
  clear g1 g2 g3 g4 g5 g6 g7 x0 x1 x2 x3 x4 x5 x6 x7 x8 x9 x10
  go_wp2_with fail
  go_ret
  exact HR.out
end Go.Proofs.YtbldidiibkcelaaGreatDoor

