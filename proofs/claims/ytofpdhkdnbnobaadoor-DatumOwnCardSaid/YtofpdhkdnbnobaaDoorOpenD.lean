/-
  Open of a box (walk). Not a statement of the seat.
-/
import Derived.Test.YtofpdhkdnbnobaaDoorEqual
import Derived.Test.YtofpdhkdnbnobaaDoorClone
namespace Go.Proofs.YtofpdhkdnbnobaaDoor
open Go.RowKit

theorem catch_idle48 (p q : Addr) (w : World) :
    CallsD Tryd.prog 48 #[.pointer (some p), .pointer (some q)] .returning w fun e u' w' => e = .returned (.tuple #[]) ∧ u' = .returning ∧ w' = w := by
  refine callsD_of_wpS Tryd.func48 rfl fun c₀ cs hu => ?_
  apply wpS_seq
  apply wpS_region
  simp [wpOpsS, go_sem, recoverD, hu, Tryd.ntmps48, Exit.thenS]
  refine wpS_cond (t := false) (by simp [Act.eval, Array.replicate]) ?_
  simp only [Bool.false_eq_true, if_false]
  refine wpS_of_wp (wp_skip ?_)
  cases c₀
  simp_all [bodyPostS, results, Tryd.results48]
theorem ta80 (v : Value) (w : World) : (Instr.typeAssert (.iface 119 v) 20 80 true).run Tryd.prog w = .ok (.tuple #[.iface 119 v, .bool true]) w := by kernel_rfl
theorem openB {bb : Nat} {i : Int} {v : Value} {w : World} (h : Blk w bb [.int .i64 i, v]) : Calls Tryd.prog 150 #[.pointer (some ⟨bb, 0, none⟩)] w (fun e w' => e = .returned v ∧ w' = w) := by
  have c1 := h.cell 1 rfl
  have c1' : w.cell? ⟨bb, 1, none⟩ = some v := c1
  go_enter Tryd.func150, Tryd.ntmps150
  go_wp2_with fail
  go_ret
  exact ⟨rfl, rfl⟩
/-- what Open comes to: a copy on its own row -/
def OPP (k i b : Int) (t : Bs) (kids : Fo) (w : World) (e : Ending) (w' : World) : Prop :=
  ∃ l n c cs, e = .returned (.tuple #[.agg #[.int .i64 k, .int .i64 i, .int .u64 b, .string ⟨t.toArray⟩, .slice l n c], .int .i64 0]) ∧ (Row w.heap.size w' 5 l n c cs ∧ At (fun x => w.heap.size ≤ x ∧ blockOf l ≠ some x) w' kids cs) ∧ Below w.heap.size w w'
/-- the blocks that Open lays first -/
def ow (w : World) (v1 : List Value) : World := ((w.alloc (.cells v1.toArray 25)).alloc (.cells #[.int .i64 0, .int .i64 0, .int .u64 0, .string ⟨#[]⟩, .slice none 0 0] 25)).alloc (.cells #[.int .i64 0] 29)
theorem ow_facts (w : World) (v1 : List Value) : (Blk (ow w v1) w.heap.size v1 ∧ Blk (ow w v1) (w.heap.size + 1) (V5 0 0 0 ⟨#[]⟩ none 0 0) ∧ Blk (ow w v1) (w.heap.size + 1 + 1) [.int .i64 0]) ∧ Below w.heap.size w (ow w v1) ∧ (ow w v1).heap.size = w.heap.size + 3 := by
  have e1 : (w.alloc (.cells v1.toArray 25)).heap.size = w.heap.size + 1 := by simp
  have e2 : ((w.alloc (.cells v1.toArray 25)).alloc (.cells #[.int .i64 0, .int .i64 0, .int .u64 0, .string ⟨#[]⟩, .slice none 0 0] 25)).heap.size = w.heap.size + 1 + 1 := by simp
  have n1 := Blk.new w v1.toArray 25
  have n2 := Blk.new (w.alloc (.cells v1.toArray 25)) #[.int .i64 0, .int .i64 0, .int .u64 0, .string ⟨#[]⟩, .slice none 0 0] 25
  have n3 := Blk.new ((w.alloc (.cells v1.toArray 25)).alloc (.cells #[.int .i64 0, .int .i64 0, .int .u64 0, .string ⟨#[]⟩, .slice none 0 0] 25)) #[.int .i64 0] 29
  rw [e1] at n2
  rw [e2] at n3
  refine ⟨⟨?_, ?_, ?_⟩, ?_, by simp [ow]⟩
  · simpa [ow] using (n1.alloc (.cells #[.int .i64 0, .int .i64 0, .int .u64 0, .string ⟨#[]⟩, .slice none 0 0] 25)).alloc (.cells #[.int .i64 0] 29)
  · simpa [ow, V5] using n2.alloc (.cells #[.int .i64 0] 29)
  · simpa [ow] using n3
  · exact ((((Below.refl _ w).alloc (Nat.le_refl _) _).alloc (by rw [e1]; omega) _).alloc (by rw [e2]; omega) _)
theorem o_res {tmps : Array Value} {w : World} {ib er : Nat} {v0 v1 v2 v3 v4 : Value} {y : Int} (h2 : tmps.getD 2 undef = .pointer (some ⟨ib, 0, none⟩)) (h3 : tmps.getD 3 undef = .pointer (some ⟨er, 0, none⟩)) (hi : Blk w ib [v0, v1, v2, v3, v4]) (he : Blk w er [.int .i64 y]) :
    (results Tryd.f26 tmps).run Tryd.prog w = .ok (.tuple #[.agg #[v0, v1, v2, v3, v4], .int .i64 y]) w := by
  have c0 := hi.cell 0 rfl
  have c1 := hi.cell 1 rfl
  have c2 := hi.cell 2 rfl
  have c3 := hi.cell 3 rfl
  have c4 := hi.cell 4 rfl
  have d0 := he.cell 0 rfl
  have h2' : tmps[2]?.getD undef = .pointer (some ⟨ib, 0, none⟩) := by simpa using h2
  have h3' : tmps[3]?.getD undef = .pointer (some ⟨er, 0, none⟩) := by simpa using h3
  simp [results, Tryd.results26, go_sem, h2', h3', c0, c1, c2, c3, c4, d0]

set_option maxHeartbeats 8000000 in
set_option maxRecDepth 100000 in
theorem openN {k1 i1 b1 i : Int} {t1 : Bs} {ks : Fo} {l : Option Addr} {n c : Nat} {S : Nat → Prop} {w : World} (hF : FoAt S w (.cons k1 i1 b1 t1 ks .nil) l n c) (hS : ∀ x, S x → x < w.heap.size) (hsh : shapeF (.cons k1 i1 b1 t1 ks .nil)) (hs : sizeF (.cons k1 i1 b1 t1 ks .nil) ≤ 100000) :
    Calls Tryd.prog 26 #[.agg #[.int .i64 11, .int .i64 i, .int .u64 0, .string ⟨#[]⟩, .slice l n c]] w (OPP k1 i1 b1 t1 ks w) := by
  obtain ⟨⟨hA, hI, hE⟩, hB, hz⟩ := ow_facts w (V5 11 i 0 ⟨#[]⟩ l n c)
  have hmf : ∀ (fn : Fn) (first cap : Array Value) (w : World), (Instr.makeFunc fn first cap).run Tryd.prog w = .ok (.func fn first cap) w := fun _ _ _ _ => rfl
  have hmk : ∀ w : World, (Instr.makeMap 76 none).run Tryd.prog w = .ok (.map (some w.heap.size)) (w.alloc (.map #[] 0)) := fun _ => by kernel_rfl
  have HF := Lib.hid hF
  have HS := Lib.hid hS
  have HSH := Lib.hid hsh
  have HSZ := Lib.hid hs
  have HB := Lib.hid hB
  have HZ := Lib.hid hz
  clear hF hS hsh hs hB hz
  go_enter_defers Tryd.func26, Tryd.ntmps26
  go_upto_region 1 with (fail)
  change Code.wp _ _ _ _ (ow w (V5 11 i 0 ⟨#[]⟩ l n c))
  generalize ow w (V5 11 i 0 ⟨#[]⟩ l n c) = w1 at *
  obtain ⟨er, her⟩ : ∃ x, x = w.heap.size + 1 + 1 := ⟨_, rfl⟩
  obtain ⟨ib, hib⟩ : ∃ x, x = w.heap.size + 1 := ⟨_, rfl⟩
  obtain ⟨p, hp⟩ : ∃ x, x = w.heap.size := ⟨_, rfl⟩
  rw [← her] at hE
  rw [← hib] at hI
  rw [← hp] at hA
  rw [← her, ← hib, ← hp]
  have HAD := Lib.hid (show p = w.heap.size ∧ ib = w.heap.size + 1 ∧ er = w.heap.size + 2 ∧ w1.heap.size = w.heap.size + 3 from ⟨hp, hib, by omega, HZ.out⟩)
  have hbx := BxM.new w1
  have HBX := Lib.hid hbx
  have hab : Below w1.heap.size w1 (w1.alloc (.map #[] 0)) := (Below.refl _ _).alloc (Nat.le_refl _) _
  have HAB := Lib.hid hab
  have hA2 := hA.below hab
  have x0 := hA2.cell 0 rfl
  have x1 := hA2.cell 1 rfl
  have x2 := hA2.cell 2 rfl
  have x3 := hA2.cell 3 rfl
  have x4 := hA2.cell 4 rfl
  have HA := Lib.hid hA2
  have HI := Lib.hid (hI.below hab)
  have HE := Lib.hid (hE.below hab)
  have HB2 := Lib.hid (HB.out.trans (hab.mono HB.out.size))
  have HF2 := Lib.hid (HF.out.same (w' := w1.alloc (.map #[] 0)) (fun x hx hlt => HB2.out.block x hlt) (fun _ hx _ => hx))
  have hlen := HF.out.len
  have HC := Lib.hid (show Calls Tryd.prog 47 #[.map (some w1.heap.size), .agg #[.int .i64 11, .int .i64 i, .int .u64 0, .string ⟨#[]⟩, .slice l n c]] (w1.alloc (.map #[] 0)) (BXP [] w1.heap.size (w1.alloc (.map #[] 0)) (fun M' x => vOne M' 11 i 0 [] (ValF M' (.cons k1 i1 b1 t1 ks .nil)) x)) from vbG (.cons k1 i1 b1 t1 ks .nil) 11 i 0 [] l n c S [] w1.heap.size _ HF2.out (fun x hx => ⟨Nat.lt_of_lt_of_le (HS.out x hx) HB2.out.size, fun h => by
    have h1 := HS.out x hx
    have h2 := HAD.out
    rcases h with h | ⟨_, h, _⟩
    · omega
    · cases h⟩) hbx (fun e => by cases e) (fun _ => rfl) HSH.out HSZ.out)
  have hW2 := Lib.hid (show (w1.alloc (.map #[] 0)).heap.size = w1.heap.size + 1 from by simp)
  clear hA hA2 hI hE hbx hab hib her hp
  go_upto_region 2 with (go_at_call 47; (with_reducible refine HC.out.mono ?_); rintro eA wA ⟨x, M1, rfl, hx, hv⟩; simp [vOne] at hx; obtain ⟨bb, hm, rfl⟩ := hx; have HV := Lib.hid hv; have HM := Lib.hid hm; have hta := fun v w => ta80 v w; clear hv hm)
  have hNN : ∀ q, q = p ∨ q = ib ∨ q = er → ¬ NB [] w1.heap.size q := fun q hq h => by
    have := HAD.out
    rcases h with h | ⟨_, h, _⟩
    · omega
    · cases h
  have hA3 := HA.out.keep HV.out.kept (hNN p (.inl rfl))
  have hI3 := HI.out.keep HV.out.kept (hNN ib (.inr (.inl rfl)))
  have hE3 := HE.out.keep HV.out.kept (hNN er (.inr (.inr rfl)))
  obtain ⟨vb, hbb⟩ := HV.out.bx.box _ HM.out
  have HO := Lib.hid (openB hbb)
  replace x0 := hA3.cell 0 rfl
  replace x1 := hA3.cell 1 rfl
  replace x2 := hA3.cell 2 rfl
  replace x3 := hA3.cell 3 rfl
  replace x4 := hA3.cell 4 rfl
  have z0 := hI3.cell 0 rfl
  have z1 := hI3.cell 1 rfl
  have z2 := hI3.cell 2 rfl
  have z3 := hI3.cell 3 rfl
  have z4 := hI3.cell 4 rfl
  have f0 := hI3.free 0 (by simp [V5])
  have f1 := hI3.free 1 (by simp [V5])
  have f2 := hI3.free 2 (by simp [V5])
  have f3 := hI3.free 3 (by simp [V5])
  have f4 := hI3.free 4 (by simp [V5])
  have y0 := hE3.cell 0 rfl
  have g0 := hE3.free 0 (by simp)
  have HI3 := Lib.hid (And.intro hI3 hE3)
  have hBA : Below w.heap.size w wA := HB2.out.trans (HV.out.kept.below (by have := HAD.out; have := hW2.out; omega) (fun x hx h => by
    have := HAD.out
    rcases h with h | ⟨_, h, _⟩
    · omega
    · cases h))
  have hFA := HF.out.same (w' := wA) (fun x hx hlt => hBA.block x hlt) (fun _ hx _ => hx)
  obtain ⟨b9, off, a2, n2, cp2, rfl, hkF, e0, e1, e2, e3, e4, _, hjn⟩ := FoAt.elem (dn := .nil) hFA
  replace hjn : 0 < n := hjn
  have hz0 : (0 : Int) < (n : Int) := by omega
  replace e0 : wA.cell? ⟨b9, off, none⟩ = some (.int .i64 k1) := e0
  replace e1 : wA.cell? ⟨b9, off + 1, none⟩ = some (.int .i64 i1) := e1
  replace e2 : wA.cell? ⟨b9, off + 2, none⟩ = some (.int .u64 b1) := e2
  replace e3 : wA.cell? ⟨b9, off + 3, none⟩ = some (.string ⟨t1.toArray⟩) := e3
  replace e4 : wA.cell? ⟨b9, off + 4, none⟩ = some (.slice a2 n2 cp2) := e4
  have HCL := Lib.hid (cloneG ks k1 i1 b1 t1 a2 n2 cp2 S wA hkF (fun x hx => Nat.lt_of_lt_of_le (HS.out x hx) hBA.size) (by have := HSZ.out; simp only [sizeF] at this; omega))
  have HBA := Lib.hid hBA
  have hmm : (method 284 119 (.pointer (some ⟨bb, 0, none⟩)) "conduit/datum.open").run Tryd.prog wA = .ok (150, .pointer (some ⟨bb, 0, none⟩)) wA := by kernel_rfl
  have hie : ib ≠ er := by have := HAD.out; omega
  have hei : er ≠ ib := by have := HAD.out; omega
  clear hA3 hI3 hE3 hbb hNN hFA hkF hBA hlen
  go_upto_region 6 with (go_at_call 150; (with_reducible refine HO.out.mono ?_); rintro eB wB ⟨rfl, rfl⟩)
  go_wp2_with (go_at_call 49; (with_reducible refine HCL.out.mono ?_); intro eC wC hcl; obtain ⟨l9, n9, c9, cs9, rfl, hRA, hbC⟩ := hcl; have HRA := Lib.hid hRA; have HI4 := Lib.hid (And.intro (HI3.out.1.below hbC) (HI3.out.2.below hbC)); have HBC := Lib.hid hbC; replace f0 := freeAt hbC z0 f0; replace f1 := freeAt hbC z1 f1; replace f2 := freeAt hbC z2 f2; replace f3 := freeAt hbC z3 f3; replace f4 := freeAt hbC z4 f4; replace g0 := freeAt hbC y0 g0; replace z0 := cellAt hbC z0; replace z1 := cellAt hbC z1; replace z2 := cellAt hbC z2; replace z3 := cellAt hbC z3; replace z4 := cellAt hbC z4; replace y0 := cellAt hbC y0; clear hRA hbC)
  change bodyPostD _ _ _ _ _ ((st5 wC ib (.int .i64 k1) (.int .i64 i1) (.int .u64 b1) (.string ⟨t1.toArray⟩) (.slice l9 n9 c9)).setCell ⟨er, 0, none⟩ (.int .i64 0))
  have hk5 := st5_kept (w := wC) (b := ib) (.int .i64 k1) (.int .i64 i1) (.int .u64 b1) (.string ⟨t1.toArray⟩) (.slice l9 n9 c9)
  have hie1 := st5_blk HI4.out.1 (.int .i64 k1) (.int .i64 i1) (.int .u64 b1) (.string ⟨t1.toArray⟩) (.slice l9 n9 c9)
  have hre := HI4.out.2.keep hk5 (fun h => hei h)
  have hk6 : Kept (fun x => x = ib ∨ x = er) wC ((st5 wC ib (.int .i64 k1) (.int .i64 i1) (.int .u64 b1) (.string ⟨t1.toArray⟩) (.slice l9 n9 c9)).setCell ⟨er, 0, none⟩ (.int .i64 0)) :=
    (hk5.mono (fun x _ h => .inl h)).put (p := ⟨er, 0, none⟩) _ (fun _ => .inr rfl)
  refine leaves_cons (f := 48) (args := #[.pointer (some ⟨ib, 0, none⟩), .pointer (some ⟨er, 0, none⟩)]) (by simp) (by simp [go_sem]) ?_
  refine (catch_idle48 _ _ _).mono ?_
  rintro e u' w'' ⟨rfl, rfl, rfl⟩
  refine ⟨_, o_res rfl rfl (hie1.other (p := ⟨er, 0, none⟩) (.int .i64 0) hei) (hre.set (j := 0) (.int .i64 0)), ?_⟩
  have had := HAD.out
  have hsz := HBA.out.size
  have hRk := HRA.out
  have hlt : ∀ x, wB.heap.size ≤ x → ¬ (x = ib ∨ x = er) := fun x hx h => by
    have := HI3.out.1.1
    have := HI3.out.2.1
    omega
  refine ⟨l9, n9, c9, cs9, rfl, ⟨(hRk.1.keep hk6 (fun x hx => hlt x (hRk.1.lt x hx).1)).mono hsz, At.same _ hRk.2 (fun x hx hl => hk6.block x hl (hlt x hx.1)) (fun x hx _ => ⟨Nat.le_trans hsz hx.1, hx.2⟩)⟩, ?_⟩
  exact HBA.out.trans ((HBC.out.mono hsz).trans (hk6.below (by have := HBC.out.size; omega) (fun x hx h => by omega)))
end Go.Proofs.YtofpdhkdnbnobaaDoor
