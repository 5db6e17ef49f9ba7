/-
  Equal (walk). Not a statement of the seat.
-/
import Derived.Test.YtofpdhkdnbnobaaDoorEqualW
import Derived.Test.YtofpdhkdnbnobaaDoorHeldL
import Derived.Recover
namespace Go.Proofs.YtofpdhkdnbnobaaDoor
open Go.RowKit

theorem catch_p {p q : Addr} {x : Bool} {y : Int} (u : TypeId) (pv : Value) (older : List PanicEntry) {w : World} (hc : w.cell? p = some (.bool x)) (hz : w.frozen? p = false) (hd : w.cell? q = some (.int .i64 y)) (hy : w.frozen? q = false) (hne : p.block ≠ q.block) :
    CallsD Tryd.prog 50 #[.pointer (some p), .pointer (some q)] (.panicking ({ v := .iface u pv, recovered := false } :: older)) w fun e u' w' =>
      e = .returned (.tuple #[]) ∧ u' = .panicking ({ v := .iface u pv, recovered := true } :: older) ∧ w' = (w.setCell p (.bool false)).setCell q (.int .i64 10) := by
  have hd' : (w.setCell p (.bool false)).cell? q = some (.int .i64 y) := by rw [World.cell?_setCell_other (h := fun e => hne (by rw [e]))]; exact hd
  refine callsD_of_wpS Tryd.func50 rfl fun c₀ cs hu => ?_
  apply wpS_seq
  apply wpS_region
  simp [wpOpsS, go_sem, recoverD, hu, Tryd.ntmps50, Exit.thenS]
  refine wpS_cond (t := true) (by simp [Act.eval, Array.replicate]) ?_
  simp only [if_true]
  apply wpS_region
  simp [wpOpsS, go_sem, hc, hz, hd', hy, bodyPostS, results, Tryd.results50]

theorem catch_idle (p q : Addr) (w : World) :
    CallsD Tryd.prog 50 #[.pointer (some p), .pointer (some q)] .returning w fun e u' w' => e = .returned (.tuple #[]) ∧ u' = .returning ∧ w' = w := by
  refine callsD_of_wpS Tryd.func50 rfl fun c₀ cs hu => ?_
  apply wpS_seq
  apply wpS_region
  simp [wpOpsS, go_sem, recoverD, hu, Tryd.ntmps50, Exit.thenS]
  refine wpS_cond (t := false) (by simp [Act.eval, Array.replicate]) ?_
  simp only [Bool.false_eq_true, if_false]
  refine wpS_of_wp (wp_skip ?_)
  cases c₀
  simp_all [bodyPostS, results, Tryd.results50]

/-- what Equal comes to -/
def EUP (r : Bool × Int) (w : World) (e : Ending) (w' : World) : Prop := e = .returned (.tuple #[.bool r.1, .int .i64 r.2]) ∧ Below w.heap.size w w'
/-- the blocks that Equal lays first -/
def ew (w : World) (v1 v2 : List Value) : World :=
  ((((w.alloc (.cells v1.toArray 25)).alloc (.cells v2.toArray 25)).alloc (.cells #[.bool false] 4)).alloc (.cells #[.int .i64 0] 29)).alloc (.map #[] 0)
theorem ew_facts (w : World) (v1 v2 : List Value) : (Blk (ew w v1 v2) w.heap.size v1 ∧ Blk (ew w v1 v2) (w.heap.size + 1) v2 ∧ Blk (ew w v1 v2) (w.heap.size + 1 + 1) [.bool false] ∧ Blk (ew w v1 v2) (w.heap.size + 1 + 1 + 1) [.int .i64 0]) ∧
    BxM [] (w.heap.size + 1 + 1 + 1 + 1) (ew w v1 v2) ∧ Below w.heap.size w (ew w v1 v2) ∧ (ew w v1 v2).heap.size = w.heap.size + 5 := by
  have e1 : (w.alloc (.cells v1.toArray 25)).heap.size = w.heap.size + 1 := by simp
  have e2 : ((w.alloc (.cells v1.toArray 25)).alloc (.cells v2.toArray 25)).heap.size = w.heap.size + 1 + 1 := by simp
  have e3 : (((w.alloc (.cells v1.toArray 25)).alloc (.cells v2.toArray 25)).alloc (.cells #[.bool false] 4)).heap.size = w.heap.size + 1 + 1 + 1 := by simp
  have e4 : ((((w.alloc (.cells v1.toArray 25)).alloc (.cells v2.toArray 25)).alloc (.cells #[.bool false] 4)).alloc (.cells #[.int .i64 0] 29)).heap.size = w.heap.size + 1 + 1 + 1 + 1 := by simp
  have n1 := Blk.new w v1.toArray 25
  have n2 := Blk.new (w.alloc (.cells v1.toArray 25)) v2.toArray 25
  have n3 := Blk.new ((w.alloc (.cells v1.toArray 25)).alloc (.cells v2.toArray 25)) #[.bool false] 4
  have n4 := Blk.new (((w.alloc (.cells v1.toArray 25)).alloc (.cells v2.toArray 25)).alloc (.cells #[.bool false] 4)) #[.int .i64 0] 29
  have n5 := BxM.new ((((w.alloc (.cells v1.toArray 25)).alloc (.cells v2.toArray 25)).alloc (.cells #[.bool false] 4)).alloc (.cells #[.int .i64 0] 29))
  rw [e1] at n2
  rw [e2] at n3
  rw [e3] at n4
  rw [e4] at n5
  refine ⟨⟨?_, ?_, (n3.alloc _).alloc _, n4.alloc _⟩, n5, ?_, by simp [ew]⟩
  · simpa [ew] using (((n1.alloc (.cells v2.toArray 25)).alloc (.cells #[.bool false] 4)).alloc (.cells #[.int .i64 0] 29)).alloc (.map #[] 0)
  · simpa [ew] using ((n2.alloc (.cells #[.bool false] 4)).alloc (.cells #[.int .i64 0] 29)).alloc (.map #[] 0)
  · exact (((((Below.refl _ w).alloc (Nat.le_refl _) _).alloc (by rw [e1]; omega) _).alloc (by rw [e2]; omega) _).alloc (by rw [e3]; omega) _).alloc (by rw [e4]; omega) _

theorem leaves_congr {P : Program} {fn : Func} {t t' : Array Value} {R : Ending → World → Prop} (h : results fn t = results fn t') : ∀ (ds : List Deferred) (u : FrameMode) (w : World), Leaves P fn t R ds u w → Leaves P fn t' R ds u w
  | [], .returning, w, h1 => by
    obtain ⟨v, hv, hr⟩ := h1
    exact ⟨v, by rw [← h]; exact hv, hr⟩
  | [], .panicking _, _, h1 => h1
  | [], .run, _, h1 => h1
  | d :: ds, u, w, h1 => by
    obtain ⟨hu, fv, cap, f, args, h2, h3, h4⟩ := h1
    refine ⟨hu, fv, cap, f, args, h2, h3, h4.mono ?_⟩
    intro e u' w' h5
    cases e with
    | returned v => exact leaves_congr h ds _ _ h5
    | panicked c => exact leaves_congr h ds _ _ h5
    | outgrown => exact h5

theorem e_res {tmps : Array Value} {w : World} {is er : Nat} {x : Bool} {y : Int} (h4 : tmps.getD 4 undef = .pointer (some ⟨is, 0, none⟩)) (h5 : tmps.getD 5 undef = .pointer (some ⟨er, 0, none⟩)) (hi : Blk w is [.bool x]) (he : Blk w er [.int .i64 y]) :
    (results Tryd.f29 tmps).run Tryd.prog w = .ok (.tuple #[.bool x, .int .i64 y]) w := by
  have c0 := hi.cell 0 rfl
  have c1 := he.cell 0 rfl
  have h4' : tmps[4]?.getD undef = .pointer (some ⟨is, 0, none⟩) := by simpa using h4
  have h5' : tmps[5]?.getD undef = .pointer (some ⟨er, 0, none⟩) := by simpa using h5
  simp [results, Tryd.results29, go_sem, h4', h5', c0, c1]
theorem e_below {w w1 wC : World} {mb is er p q : Nat} (hB : Below w.heap.size w w1) (hK : Kept (NB [] mb) w1 wC)
    (hA : (p = w.heap.size ∧ q = w.heap.size + 1) ∧ is = w.heap.size + 2 ∧ er = w.heap.size + 3 ∧ mb = w.heap.size + 4 ∧ w1.heap.size = w.heap.size + 5) (u v : Value) :
    Below w.heap.size w ((wC.setCell ⟨is, 0, none⟩ u).setCell ⟨er, 0, none⟩ v) := by
  refine hB.trans ?_
  have h1 : Kept (fun x => w.heap.size ≤ x) w1 wC := hK.mono (fun x _ h => by
    rcases h with h | ⟨_, h, _⟩
    · omega
    · cases h)
  exact ((h1.put (p := ⟨is, 0, none⟩) u (fun _ => by show w.heap.size ≤ is; omega)).put (p := ⟨er, 0, none⟩) v (fun _ => by show w.heap.size ≤ er; omega)).below (by omega) (fun x hx h => by omega)
theorem res29 (tmps : Array Value) {j : Nat} (v : Value) (h4 : j ≠ 4) (h5 : j ≠ 5) : results Tryd.f29 (tmps.setIfInBounds j v) = results Tryd.f29 tmps := by
  simp [results, Tryd.results29, Array.getElem?_setIfInBounds, h4, h5]
theorem q29 {R : Ending → World → Prop} {j : Nat} {v : Value} {c : List PanicEntry} {a : Act} {w : World} (h4 : j ≠ 4) (h5 : j ≠ 5) (h : bodyPostD Tryd.prog Tryd.f29 R (.panic c) (a.put (some j) v) w) : bodyPostD Tryd.prog Tryd.f29 R (.panic c) a w :=
  leaves_congr (res29 a.tmps v h4 h5) _ _ _ h

set_option maxHeartbeats 8000000 in
set_option maxRecDepth 100000 in
theorem equalN {kids g : Fo} {k i b k' i' b' : Int} {t t' : Bs} {l l' : Option Addr} {n c n' c' : Nat} {S : Nat → Prop} {w : World} (hF : FoAt S w kids l n c) (hG : FoAt S w g l' n' c') (hS : ∀ x, S x → x < w.heap.size)
    (hf : fitsM k i b t kids.len = true) (hr : rightM kids = true) (hf' : fitsM k' i' b' t' g.len = true) (hr' : rightM g = true) (hs : sizeF kids ≤ 100000) (hs' : sizeF g ≤ 100000) :
    Calls Tryd.prog 29 #[.agg #[.int .i64 k, .int .i64 i, .int .u64 b, .string ⟨t.toArray⟩, .slice l n c], .agg #[.int .i64 k', .int .i64 i', .int .u64 b', .string ⟨t'.toArray⟩, .slice l' n' c']] w (EUP (eqOne k i b t k' i' b' t' (eqF kids g)) w) := by
  obtain ⟨⟨hA, hA', hI, hE⟩, hM, hB, hz⟩ := ew_facts w (V5 k i b ⟨t.toArray⟩ l n c) (V5 k' i' b' ⟨t'.toArray⟩ l' n' c')
  have hmf : ∀ (fn : Fn) (first cap : Array Value) (w : World), (Instr.makeFunc fn first cap).run Tryd.prog w = .ok (.func fn first cap) w := fun _ _ _ _ => rfl
  have hmk : ∀ w : World, (Instr.makeMap 76 none).run Tryd.prog w = .ok (.map (some w.heap.size)) (w.alloc (.map #[] 0)) := fun _ => by kernel_rfl
  have HFG := Lib.hid (And.intro hF hG)
  have HS := Lib.hid hS
  have HR := Lib.hid (And.intro (And.intro hf hr) (And.intro hf' hr'))
  have HSZ := Lib.hid (And.intro hs hs')
  have HM := Lib.hid hM
  have HB := Lib.hid hB
  have HZ := Lib.hid hz
  clear hF hG hS hf hr hf' hr' hs hs' hM hB hz
  go_enter_defers Tryd.func29, Tryd.ntmps29
  go_upto_region 3 with (fail)
  change Code.wp _ _ _ _ (ew w (V5 k i b ⟨t.toArray⟩ l n c) (V5 k' i' b' ⟨t'.toArray⟩ l' n' c'))
  generalize ew w (V5 k i b ⟨t.toArray⟩ l n c) (V5 k' i' b' ⟨t'.toArray⟩ l' n' c') = w1 at *
  clear hmf hmk
  obtain ⟨mb, hmb⟩ : ∃ x, x = w.heap.size + 1 + 1 + 1 + 1 := ⟨_, rfl⟩
  obtain ⟨er, her⟩ : ∃ x, x = w.heap.size + 1 + 1 + 1 := ⟨_, rfl⟩
  obtain ⟨is, his⟩ : ∃ x, x = w.heap.size + 1 + 1 := ⟨_, rfl⟩
  obtain ⟨q, hq⟩ : ∃ x, x = w.heap.size + 1 := ⟨_, rfl⟩
  obtain ⟨p, hp⟩ : ∃ x, x = w.heap.size := ⟨_, rfl⟩
  rw [← hmb] at HM
  rw [← his] at hI
  rw [← her] at hE
  rw [← hq] at hA'
  rw [← hp] at hA
  rw [← hmb, ← her, ← his, ← hq, ← hp]
  have HAD := Lib.hid (show (p = w.heap.size ∧ q = w.heap.size + 1) ∧ is = w.heap.size + 2 ∧ er = w.heap.size + 3 ∧ mb = w.heap.size + 4 ∧ w1.heap.size = w.heap.size + 5 from ⟨⟨hp, hq⟩, by omega, by omega, by omega, HZ.out⟩)
  have x0 := hA.cell 0 rfl
  have x1 := hA.cell 1 rfl
  have x2 := hA.cell 2 rfl
  have x3 := hA.cell 3 rfl
  have x4 := hA.cell 4 rfl
  have y0 := hA'.cell 0 rfl
  have y1 := hA'.cell 1 rfl
  have y2 := hA'.cell 2 rfl
  have y3 := hA'.cell 3 rfl
  have y4 := hA'.cell 4 rfl
  have HI := Lib.hid hI
  have HE := Lib.hid hE
  have HKEEP := Lib.hid (show ∀ wx, Kept (fun x => x = mb ∨ x = is) w1 wx → ((wx.cell? ⟨p, 0, none⟩ = some (.int .i64 k) ∧ wx.cell? ⟨p, 1, none⟩ = some (.int .i64 i) ∧ wx.cell? ⟨p, 2, none⟩ = some (.int .u64 b) ∧ wx.cell? ⟨p, 3, none⟩ = some (.string ⟨t.toArray⟩) ∧ wx.cell? ⟨p, 4, none⟩ = some (.slice l n c)) ∧ (wx.cell? ⟨q, 0, none⟩ = some (.int .i64 k') ∧ wx.cell? ⟨q, 1, none⟩ = some (.int .i64 i') ∧ wx.cell? ⟨q, 2, none⟩ = some (.int .u64 b') ∧ wx.cell? ⟨q, 3, none⟩ = some (.string ⟨t'.toArray⟩) ∧ wx.cell? ⟨q, 4, none⟩ = some (.slice l' n' c'))) from fun wx hk => by
    have hp9 : wx.heap[p]? = w1.heap[p]? := hk.block p hA.1 (by have := HAD.out; omega)
    have hq9 : wx.heap[q]? = w1.heap[q]? := hk.block q hA'.1 (by have := HAD.out; omega)
    have cp := fun (j : Nat) (v : Value) (h : w1.cell? ⟨p, j, none⟩ = some v) => (World.cell?_of_block (a := ⟨p, j, none⟩) hp9).trans h
    have cq := fun (j : Nat) (v : Value) (h : w1.cell? ⟨q, j, none⟩ = some v) => (World.cell?_of_block (a := ⟨q, j, none⟩) hq9).trans h
    exact ⟨⟨cp _ _ x0, cp _ _ x1, cp _ _ x2, cp _ _ x3, cp _ _ x4⟩, ⟨cq _ _ y0, cq _ _ y1, cq _ _ y2, cq _ _ y3, cq _ _ y4⟩⟩)
  have hf := HFG.out.1.same (w' := w1) (fun x hx hlt => HB.out.block x hlt) (fun _ hx _ => hx)
  have hg := HFG.out.2.same (w' := w1) (fun x hx hlt => HB.out.block x hlt) (fun _ hx _ => hx)
  have hS2 : ∀ (M : BM), (∀ p ∈ M, w1.heap.size ≤ p.2) → ∀ x, S x → ¬ NB M mb x := fun M hM x hx h => by
    have h1 := HS.out x hx
    have h2 := HAD.out
    rcases h with h | ⟨r, hr, h⟩
    · omega
    · have := hM r hr; omega
  have hsk := shape_right _ HR.out.1.2
  have hsg := shape_right _ HR.out.2.2
  have HC1 := Lib.hid (fun (wx : World) (hv : VB [] mb w1 [] wx) => vbG kids k i b t l n c S [] mb wx (hf.keepS hv.kept (fun x hx => hS2 [] (fun _ h => by cases h) x hx)) (fun x hx => ⟨by have := HS.out x hx; have := hv.kept.size; have := HAD.out; omega, hS2 [] (fun _ h => by cases h) x hx⟩) hv.bx (fun e => by have := HR.out.1.1; subst e; simp [fitsM] at this; omega) (fun e => by have := HR.out.1.1; subst e; simp [fitsM] at this; omega) hsk HSZ.out.1)
  have HC2 := Lib.hid (fun (M1 : BM) (wx : World) (hv : VB [] mb w1 M1 wx) => vbG g k' i' b' t' l' n' c' S M1 mb wx (hg.keepS hv.kept (fun x hx => hS2 [] (fun _ h => by cases h) x hx)) (fun x hx => ⟨by have := HS.out x hx; have := hv.kept.size; have := HAD.out; omega, hS2 M1 (fun r hr => by rcases hv.fresh r hr with h | h; cases h; exact h) x hx⟩) hv.bx (fun e => by have := HR.out.2.1; subst e; simp [fitsM] at this; omega) (fun e => by have := HR.out.2.1; subst e; simp [fitsM] at this; omega) hsg HSZ.out.2)
  have HCE := Lib.hid (fun (M2 : BM) (wx : World) (y1 y2 : Value) (hv : BxM M2 mb wx) (h1 : vOne M2 k i b t (ValF M2 kids) y1) (h2 : vOne M2 k' i' b' t' (ValF M2 g) y2) => eqG kids g k i b k' i' b' t t' y1 y2 M2 mb wx hv h1 h2 HR.out.1.1 HR.out.1.2 HR.out.2.1 HR.out.2.2)
  have hN := eqOne_nrm (k := k) (i := i) (b := b) (t := t) (k' := k') (i' := i') (b' := b') (t' := t') (eqF_nrm kids g)
  generalize eqOne k i b t k' i' b' t' (eqF kids g) = rr at *
  have HN := Lib.hid hN
  have HNB := Lib.hid (show ∀ x, x < w1.heap.size → NB [] mb x → x = mb ∨ x = is from fun x _ h => by
    rcases h with h | ⟨_, h, _⟩
    · exact .inl h
    · cases h)
  have HNI := Lib.hid (show ∀ x, x = is ∨ x = er → ¬ NB [] mb x from fun x hx h => by
    have := HAD.out
    rcases h with h | ⟨_, h, _⟩
    · omega
    · cases h)
  clear hA hA' hI hE hf hg hS2 hsk hsg hmb her his hq hp x0 x1 x2 x3 x4 y0 y1 y2 y3 y4 HR HSZ hN
  refine wp_region_L (S := fun wx : World => (wx.cell? ⟨p, 0, none⟩ = some (.int .i64 k) ∧ wx.cell? ⟨p, 1, none⟩ = some (.int .i64 i) ∧ wx.cell? ⟨p, 2, none⟩ = some (.int .u64 b) ∧ wx.cell? ⟨p, 3, none⟩ = some (.string ⟨t.toArray⟩) ∧ wx.cell? ⟨p, 4, none⟩ = some (.slice l n c)) ∧ (wx.cell? ⟨q, 0, none⟩ = some (.int .i64 k') ∧ wx.cell? ⟨q, 1, none⟩ = some (.int .i64 i') ∧ wx.cell? ⟨q, 2, none⟩ = some (.int .u64 b') ∧ wx.cell? ⟨q, 3, none⟩ = some (.string ⟨t'.toArray⟩) ∧ wx.cell? ⟨q, 4, none⟩ = some (.slice l' n' c'))) (by kernel_rfl) ?_ (fun hHeld => ?_)
  · exact HKEEP.out _ (Kept.refl _ _).drew
  refine takeL (i := 0) 2 (v := ?va0) rfl (by kernel_rfl) (by kernel_rfl) (by kernel_rfl) (by kernel_rfl) (by kernel_rfl) (fun _ _ _ h => q29 (j := 9) (by decide) (by decide) h) (Or.inl ⟨by rfl, ?hy0⟩) (by assumption) ?rest0
  case hy0 => (intro w9 hSw; (try dsimp only at hSw); go_simp; try with_reducible rfl)
  try simp only [Act.put, List.setIfInBounds_toArray, List.set_cons_zero, List.set_cons_succ]
  refine takeL (i := 1) 2 (v := ?va1) rfl (by kernel_rfl) (by kernel_rfl) (by kernel_rfl) (by kernel_rfl) (by kernel_rfl) (fun _ _ _ h => q29 (j := 10) (by decide) (by decide) h) (Or.inl ⟨by rfl, ?hy1⟩) (by assumption) ?rest1
  case hy1 => (intro w9 hSw; (try dsimp only at hSw); go_simp; try with_reducible rfl)
  try simp only [Act.put, List.setIfInBounds_toArray, List.set_cons_zero, List.set_cons_succ]
  refine takeL (i := 3) 5 (v := ?va3) rfl (by kernel_rfl) (by kernel_rfl) (by kernel_rfl) (by kernel_rfl) (by kernel_rfl) (fun _ _ _ h => q29 (j := 12) (by decide) (by decide) h) (Or.inl ⟨by rfl, ?hy3⟩) (by assumption) ?rest3
  case hy3 => (intro w9 hSw; (try dsimp only at hSw); go_simp; try with_reducible rfl)
  try simp only [Act.put, List.setIfInBounds_toArray, List.set_cons_zero, List.set_cons_succ]
  refine takeL (i := 4) 5 (v := ?va4) rfl (by kernel_rfl) (by kernel_rfl) (by kernel_rfl) (by kernel_rfl) (by kernel_rfl) (fun _ _ _ h => q29 (j := 13) (by decide) (by decide) h) (Or.inl ⟨by rfl, ?hy4⟩) (by assumption) ?rest4
  case hy4 => (intro w9 hSw; (try dsimp only at hSw); go_simp; try with_reducible rfl)
  try simp only [Act.put, List.setIfInBounds_toArray, List.set_cons_zero, List.set_cons_succ]
  refine oneL (i := 2) (by kernel_rfl) rfl (fun K hK => ?_)
  (go_simp; go_at_call 47; (with_reducible refine (HC1.out _ (VB.refl HM.out (Below.refl _ _).drew)).mono ?_); rintro eA wA ⟨y1, M1, rfl, hy1, hvA⟩; have HVA := Lib.hid (VB.ahead HM.out (Below.refl _ _).drew hvA); have HY1 := Lib.hid hy1; clear hy1 hvA)
  refine hK.out _ _ ?_ (fun hHeld2 => ?_)
  · exact HKEEP.out _ (HVA.out.kept.mono HNB.out)
  clear hK K hHeld
  try simp only [Act.put, List.setIfInBounds_toArray, List.set_cons_zero, List.set_cons_succ]
  refine oneL (i := 5) (by kernel_rfl) rfl (fun K hK => ?_)
  (go_simp; go_at_call 47; (with_reducible refine (HC2.out M1 wA HVA.out).mono ?_); rintro eB wB ⟨y2, M2, rfl, hy2, hvB⟩; have HVBB := Lib.hid (HVA.out.trans hvB); have HSUB := Lib.hid hvB.sub; have HY2 := Lib.hid hy2; clear hy2 hvB)
  refine hK.out _ _ ?_ (fun hHeld => ?_)
  · exact HKEEP.out _ (HVBB.out.kept.mono HNB.out)
  clear hK K hHeld2
  try simp only [Act.put, List.setIfInBounds_toArray, List.set_cons_zero, List.set_cons_succ]
  have HCQ := Lib.hid (HCE.out M2 wB y1 y2 HVBB.out.bx (HY1.out.mono HSUB.out (fun _ h => ValF.mono HSUB.out _ h)) HY2.out)
  rcases HN.out with rfl | rfl | rfl
  · refine oneL (i := 6) (by kernel_rfl) rfl (fun K hK => ?_)
    (go_simp; go_at_call 51; (with_reducible refine HCQ.out.mono ?_); intro eC wC hC; obtain ⟨rfl, hbC⟩ := EQP.t hC; have HVC := Lib.hid (HVBB.out.kept.calm hbC); clear hC hbC)
    refine hK.out _ _ ?_ (fun hHeld2 => ?_)
    · exact HKEEP.out _ (HVC.out.mono HNB.out)
    clear hK K hHeld
    try simp only [Act.put, List.setIfInBounds_toArray, List.set_cons_zero, List.set_cons_succ]
    have hI := HI.out.keep HVC.out (HNI.out _ (.inl rfl))
    have hE := HE.out.keep HVC.out (HNI.out _ (.inr rfl))
    have i0 := hI.cell 0 rfl
    have i1 := hI.free 0 (by simp)
    have e0 := hE.cell 0 rfl
    have e1 := hE.free 0 (by simp)
    have HI2 := Lib.hid hI
    have HE2 := Lib.hid hE
    clear hI hE
    refine oneL (i := 7) (by kernel_rfl) rfl (fun K hK => ?_)
    go_simp
    refine hK.out _ _ ?_ (fun hHeld => ?_)
    · exact HKEEP.out _ ((HVC.out.mono HNB.out).put (p := ⟨is, 0, none⟩) _ (fun _ => .inr rfl))
    clear hK K hHeld2
    try simp only [Act.put, List.setIfInBounds_toArray, List.set_cons_zero, List.set_cons_succ]
    have HI3 := Lib.hid (HI2.out.set (j := 0) (.bool true))
    have hE := HE2.out.other (p := ⟨is, 0, none⟩) (.bool true) (by have := HAD.out; show is ≠ er; omega)
    have HE3 := Lib.hid hE
    have e0 := hE.cell 0 rfl
    have e1 := hE.free 0 (by simp)
    clear hE
    refine lastL (i := 8) (by kernel_rfl) rfl (by kernel_rfl) (by kernel_rfl) (fun K hK => ?_)
    go_simp
    refine hK.out _ _ ?_
    clear hK K hHeld
    go_wp2_with fail
    refine leaves_cons (f := 50) (args := #[.pointer (some ⟨is, 0, none⟩), .pointer (some ⟨er, 0, none⟩)]) (by simp) (by simp [go_sem]) ?_
    refine (catch_idle _ _ _).mono ?_
    rintro e u' w'' ⟨rfl, rfl, rfl⟩
    refine ⟨_, e_res rfl rfl (HI3.out.other (p := ⟨er, 0, none⟩) (.int .i64 0) (by have := HAD.out; show er ≠ is; omega)) (HE3.out.set (j := 0) (.int .i64 0)), rfl, ?_⟩
    exact e_below HB.out HVC.out HAD.out _ _
  · refine oneL (i := 6) (by kernel_rfl) rfl (fun K hK => ?_)
    (go_simp; go_at_call 51; (with_reducible refine HCQ.out.mono ?_); intro eC wC hC; obtain ⟨rfl, hbC⟩ := EQP.f hC; have HVC := Lib.hid (HVBB.out.kept.calm hbC); clear hC hbC)
    refine hK.out _ _ ?_ (fun hHeld2 => ?_)
    · exact HKEEP.out _ (HVC.out.mono HNB.out)
    clear hK K hHeld
    try simp only [Act.put, List.setIfInBounds_toArray, List.set_cons_zero, List.set_cons_succ]
    have hI := HI.out.keep HVC.out (HNI.out _ (.inl rfl))
    have hE := HE.out.keep HVC.out (HNI.out _ (.inr rfl))
    have i0 := hI.cell 0 rfl
    have i1 := hI.free 0 (by simp)
    have e0 := hE.cell 0 rfl
    have e1 := hE.free 0 (by simp)
    have HI2 := Lib.hid hI
    have HE2 := Lib.hid hE
    clear hI hE
    refine oneL (i := 7) (by kernel_rfl) rfl (fun K hK => ?_)
    go_simp
    refine hK.out _ _ ?_ (fun hHeld => ?_)
    · exact HKEEP.out _ ((HVC.out.mono HNB.out).put (p := ⟨is, 0, none⟩) _ (fun _ => .inr rfl))
    clear hK K hHeld2
    try simp only [Act.put, List.setIfInBounds_toArray, List.set_cons_zero, List.set_cons_succ]
    have HI3 := Lib.hid (HI2.out.set (j := 0) (.bool false))
    have hE := HE2.out.other (p := ⟨is, 0, none⟩) (.bool false) (by have := HAD.out; show is ≠ er; omega)
    have HE3 := Lib.hid hE
    have e0 := hE.cell 0 rfl
    have e1 := hE.free 0 (by simp)
    clear hE
    refine lastL (i := 8) (by kernel_rfl) rfl (by kernel_rfl) (by kernel_rfl) (fun K hK => ?_)
    go_simp
    refine hK.out _ _ ?_
    clear hK K hHeld
    go_wp2_with fail
    refine leaves_cons (f := 50) (args := #[.pointer (some ⟨is, 0, none⟩), .pointer (some ⟨er, 0, none⟩)]) (by simp) (by simp [go_sem]) ?_
    refine (catch_idle _ _ _).mono ?_
    rintro e u' w'' ⟨rfl, rfl, rfl⟩
    refine ⟨_, e_res rfl rfl (HI3.out.other (p := ⟨er, 0, none⟩) (.int .i64 0) (by have := HAD.out; show er ≠ is; omega)) (HE3.out.set (j := 0) (.int .i64 0)), rfl, ?_⟩
    exact e_below HB.out HVC.out HAD.out _ _
  · refine oneL (i := 6) (by kernel_rfl) rfl (fun K hK => ?_)
    (go_simp; go_at_call 51; (with_reducible refine HCQ.out.mono ?_); intro eC wC hC; obtain ⟨⟨pu, pv, rfl⟩, hbC⟩ := EQP.p hC; have HVC := Lib.hid (HVBB.out.kept.calm hbC); clear hC hbC)
    have hI := HI.out.keep HVC.out (HNI.out _ (.inl rfl))
    have hE := HE.out.keep HVC.out (HNI.out _ (.inr rfl))
    have hne : is ≠ er := by have := HAD.out; omega
    refine leaves_cons (f := 50) (args := #[.pointer (some ⟨is, 0, none⟩), .pointer (some ⟨er, 0, none⟩)]) (by simp) (by simp [go_sem]) ?_
    refine (catch_p pu pv [] (hI.cell 0 rfl) (hI.free 0 (by simp)) (hE.cell 0 rfl) (hE.free 0 (by simp)) hne).mono ?_
    rintro e u' w'' ⟨rfl, rfl, rfl⟩
    refine ⟨_, e_res rfl rfl ((hI.set (j := 0) (.bool false)).other (p := ⟨er, 0, none⟩) (.int .i64 10) (by show er ≠ is; omega)) ((hE.other (p := ⟨is, 0, none⟩) (.bool false) (by show is ≠ er; omega)).set (j := 0) (.int .i64 10)), rfl, ?_⟩
    exact e_below HB.out HVC.out HAD.out _ _

end Go.Proofs.YtofpdhkdnbnobaaDoor
