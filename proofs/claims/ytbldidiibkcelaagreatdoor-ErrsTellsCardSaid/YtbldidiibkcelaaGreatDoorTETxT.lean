/-
  Text (walk). Not a statement of the seat.
-/
import Derived.Test.YtbldidiibkcelaaGreatDoorTETxN
import Derived.Defers
import Derived.Recover
namespace Go.Proofs.YtbldidiibkcelaaGreatDoor
open Go.RowKit

/-- Text's two answers -/
def tT (e : Et) : Bs × Int := if e.k = 0 then ([], 0) else match tx1 e with
  | none => ([], 13)
  | some s => (s, 0)
theorem tT_zero {e : Et} (h : e.k = 0) : tT e = ([], 0) := by unfold tT; rw [if_pos h]
theorem tT_none {e : Et} (h : e.k ≠ 0) (hx : tx1 e = none) : tT e = ([], 13) := by unfold tT; rw [if_neg h, hx]
theorem tT_some {e : Et} {s : Bs} (h : e.k ≠ 0) (hx : tx1 e = some s) : tT e = (s, 0) := by unfold tT; rw [if_neg h, hx]
theorem catch_p61 {p q : Addr} {x : Value} {y : Int} (u : TypeId) (pv : Value) (older : List PanicEntry) {w : World} (hc : w.cell? p = some x) (hz : w.frozen? p = false) (hd : w.cell? q = some (.int .i64 y)) (hy : w.frozen? q = false) (hne : p.block ≠ q.block) :
    CallsD Tryz.prog 61 #[.pointer (some p), .pointer (some q)] (.panicking ({ v := .iface u pv, recovered := false } :: older)) w fun e u' w' =>
      e = .returned (.tuple #[]) ∧ u' = .panicking ({ v := .iface u pv, recovered := true } :: older) ∧ w' = (w.setCell p (.string ⟨#[]⟩)).setCell q (.int .i64 13) := by
  have hd' : (w.setCell p (.string ⟨#[]⟩)).cell? q = some (.int .i64 y) := by rw [World.cell?_setCell_other (h := fun e => hne (by rw [e]))]; exact hd
  refine callsD_of_wpS Tryz.func61 rfl fun c₀ cs hu => ?_
  apply wpS_seq
  apply wpS_region
  simp [wpOpsS, go_sem, recoverD, hu, Tryz.ntmps61, Exit.thenS]
  refine wpS_cond (t := true) (by simp [Act.eval, Array.replicate]) ?_
  simp only [if_true]
  apply wpS_region
  simp [wpOpsS, go_sem, hc, hz, hd', hy, bodyPostS, results, Tryz.results61]
def tw3 (w : World) (k i c : Int) (t : Bs) (b : Dt) (bl : Option Addr) (bn bc : Nat) (cl : Option Addr) (cn cc : Nat) (l : Option Addr) (n cap : Nat) : World := ((ebox w k i c t b bl bn bc cl cn cc l n cap).alloc (.cells #[.string ⟨#[]⟩] 9)).alloc (.cells #[.int .i64 0] 32)
theorem tw3_facts (w : World) (k i c : Int) (t : Bs) (b : Dt) (bl : Option Addr) (bn bc : Nat) (cl : Option Addr) (cn cc : Nat) (l : Option Addr) (n cap : Nat) : Blk (tw3 w k i c t b bl bn bc cl cn cc l n cap) w.heap.size (V11 k i c t b bl bn bc cl cn cc l n cap) ∧ Blk (tw3 w k i c t b bl bn bc cl cn cc l n cap) (w.heap.size + 1) [.string ⟨#[]⟩] ∧ Blk (tw3 w k i c t b bl bn bc cl cn cc l n cap) (w.heap.size + 1 + 1) [.int .i64 0] ∧ Below w.heap.size w (tw3 w k i c t b bl bn bc cl cn cc l n cap) ∧ (tw3 w k i c t b bl bn bc cl cn cc l n cap).heap.size = w.heap.size + 3 := by
  have e1 := ebox_size w k i c t b bl bn bc cl cn cc l n cap
  have h1 := ebox_blk w k i c t b bl bn bc cl cn cc l n cap
  have hb := ebox_below w k i c t b bl bn bc cl cn cc l n cap
  unfold tw3
  generalize ebox w k i c t b bl bn bc cl cn cc l n cap = w1 at *
  have e2 : (w1.alloc (.cells #[.string ⟨#[]⟩] 9)).heap.size = w.heap.size + 1 + 1 := by simp [e1]
  have n1 := Blk.new w1 #[.string ⟨#[]⟩] 9
  have n2 := Blk.new (w1.alloc (.cells #[.string ⟨#[]⟩] 9)) #[.int .i64 0] 32
  rw [e1] at n1
  rw [e2] at n2
  exact ⟨(h1.alloc _).alloc _, n1.alloc _, n2, (hb.alloc hb.size _).alloc (by rw [e2]; omega) _, by simp [e1]⟩
theorem t_below {w w1 wB : World} {ib er : Nat} (hB : Below w.heap.size w w1) (hBB : Below w1.heap.size w1 wB) (hi : w.heap.size ≤ ib) (he : w.heap.size ≤ er) (v u : Value) : Below w.heap.size w ((wB.setCell ⟨ib, 0, none⟩ v).setCell ⟨er, 0, none⟩ u) := by
  have h1 : Kept (fun x => x = ib ∨ x = er) wB ((wB.setCell ⟨ib, 0, none⟩ v).setCell ⟨er, 0, none⟩ u) :=
    ((Kept.refl _ _).put (p := ⟨ib, 0, none⟩) _ (fun _ => .inl rfl)).put (p := ⟨er, 0, none⟩) _ (fun _ => .inr rfl)
  have h2 := bel_tr hB hBB
  exact h2.trans (h1.below h2.size (fun x hx h => by omega))
set_option maxHeartbeats 8000000 in
set_option maxRecDepth 100000 in
theorem text26 {S : Nat → Prop} {k i c : Int} {t : Bs} {b : Dt} {cs : List Int} {kids : Eo} {bl : Option Addr} {bn bc : Nat} {cl : Option Addr} {cn cc : Nat} {l : Option Addr} {n cap : Nat} {w : World} (hE : ErAt S w ⟨k, i, c, t, b, cs, kids⟩ bl bn bc cl cn cc l n cap) (hS : ∀ x, S x → x < w.heap.size) (hL : Lb w) (hr : rightE ⟨k, i, c, t, b, cs, kids⟩ = true) (hok : okS ⟨k, i, c, t, b, cs, kids⟩) (hrg : erng1 ⟨k, i, c, t, b, cs, kids⟩) (hT : TW1 ⟨k, i, c, t, b, cs, kids⟩ ≤ 140737488355328) :
    Calls Tryz.prog 26 #[vE k i c t b bl bn bc cl cn cc l n cap] w (fun r w' => r = .returned (.tuple #[S1 (tT ⟨k, i, c, t, b, cs, kids⟩).1, .int .i64 (tT ⟨k, i, c, t, b, cs, kids⟩).2]) ∧ Below w.heap.size w w') := by
  obtain ⟨hA, hI, hX, hB, hz⟩ := tw3_facts w k i c t b bl bn bc cl cn cc l n cap
  have hmf : ∀ (fn : Fn) (first cap : Array Value) (w : World), (Instr.makeFunc fn first cap).run Tryz.prog w = .ok (.func fn first cap) w := fun _ _ _ _ => rfl
  have hten := right_ten hr
  have HEV := Lib.hid (fun (wx : World) (hx : Below w.heap.size w wx) => valueEV (N := fun _ => False) (hE.same (w' := wx) (fun x _ hl => hx.block x hl) (fun x hx2 _ => hx2)) (fun x h => h.elim))
  have HER := Lib.hid (fun (h1 : 1 ≤ k) => errN (ehi kids) ⟨k, i, c, t, b, cs, kids⟩ (Nat.le_refl _) hr h1 hok hrg hT)
  have HSL := Lib.hid (And.intro hS (And.intro hL hten))
  have HTT := Lib.hid (show (k = 0 → tT ⟨k, i, c, t, b, cs, kids⟩ = ([], 0)) ∧ (k ≠ 0 → tx1 ⟨k, i, c, t, b, cs, kids⟩ = none → tT ⟨k, i, c, t, b, cs, kids⟩ = ([], 13)) ∧ (k ≠ 0 → ∀ s, tx1 ⟨k, i, c, t, b, cs, kids⟩ = some s → tT ⟨k, i, c, t, b, cs, kids⟩ = (s, 0)) from ⟨fun h => tT_zero h, fun h hx => tT_none h hx, fun h s hx => tT_some h hx⟩)
  have HB := Lib.hid hB
  have HZ := Lib.hid hz
  clear hE hS hL hr hok hrg hT hB hz hten
  unfold ERC at HER
  dsimp only at HER
  generalize tT ⟨k, i, c, t, b, cs, kids⟩ = tt at *
  generalize tx1 ⟨k, i, c, t, b, cs, kids⟩ = ox at *
  unfold vE at HEV ⊢
  go_enter_defers Tryz.func26, Tryz.ntmps26
  go_upto_region 1 with (fail)
  change Code.wp _ _ _ _ (tw3 w k i c t b bl bn bc cl cn cc l n cap)
  generalize tw3 w k i c t b bl bn bc cl cn cc l n cap = w1 at *
  obtain ⟨er, her⟩ : ∃ x, x = w.heap.size + 1 + 1 := ⟨_, rfl⟩
  obtain ⟨ib, hib⟩ : ∃ x, x = w.heap.size + 1 := ⟨_, rfl⟩
  rw [← her] at hX
  rw [← hib] at hI
  rw [← her, ← hib]
  have HAD := Lib.hid (show ib = w.heap.size + 1 ∧ er = w.heap.size + 2 from ⟨hib, by omega⟩)
  have x0 := hA.cell 0 rfl; have x1 := hA.cell 1 rfl; have x2 := hA.cell 2 rfl; have x3 := hA.cell 3 rfl; have x4 := hA.cell 4 rfl; have x5 := hA.cell 5 rfl; have x6 := hA.cell 6 rfl; have x7 := hA.cell 7 rfl; have x8 := hA.cell 8 rfl; have x9 := hA.cell 9 rfl; have x10 := hA.cell 10 rfl
  have HI := Lib.hid hI
  have HE := Lib.hid hX
  clear hA hI hX her hib
  go_upto_region 2 with (go_at_call 50; (with_reducible refine (HEV.out _ HB.out).mono ?_); rintro eA wA ⟨v, rfl, hv, hBA⟩; have HBA := Lib.hid hBA; have HV := Lib.hid hv; have HI2 := Lib.hid (HI.out.below hBA); have HE2 := Lib.hid (HE.out.below hBA); clear hBA hv)
  have HBX := Lib.hid HB.out
  clear x0 x1 x2 x3 x4 x5 x6 x7 x8 x9 x10
  have hnei : ib ≠ er := by have := HAD.out; omega
  have hne : er ≠ ib := by have := HAD.out; omega
  by_cases h0 : k = 0
  · have hv0 : v = .nilIface := by
      obtain ⟨bl, bn, bc, cl, cn, cc, l, n, cap, q, p, hve, _⟩ := HV.out
      subst h0
      exact hve
    subst hv0
    have HT0 := Lib.hid (show tt = ([], 0) from HTT.out.1 h0)
    have i0 := HI2.out.cell 0 rfl; have i1 := HI2.out.free 0 (by simp); have e0 := HE2.out.cell 0 rfl; have e1 := HE2.out.free 0 (by simp)
    clear h0
    go_wp2_with fail
    rw [HT0.out]
    have hi4 := (HI2.out.set (j := 0) (.string ⟨#[]⟩)).other (p := ⟨er, 0, none⟩) (.int .i64 0) hne
    have he4 := (HE2.out.other (p := ⟨ib, 0, none⟩) (.string ⟨#[]⟩) (Ne.symm hne)).set (j := 0) (.int .i64 0)
    exact ⟨_, t_res rfl rfl hi4 he4, rfl, t_below HB.out HBA.out (by have := HAD.out; omega) (by have := HAD.out; omega) _ _⟩
  · obtain ⟨y, hvy, ⟨T, x, hTx, hm, hcf, hna⟩⟩ := methAll HV.out (show 1 ≤ k by have := HSL.out.2.2; omega) HSL.out.2.2.2
    dsimp only at hvy hTx hm hcf hna
    subst hvy
    cases hTx
    have HC := Lib.hid (HER.out (show 1 ≤ k by have := HSL.out.2.2; omega) S y wA HV.out (fun q hq => Nat.lt_of_lt_of_le (HSL.out.1 q hq) (Nat.le_trans HB.out.size HBA.out.size)) ((HSL.out.2.1.below HB.out HSL.out.2.1.size).below HBA.out (Nat.le_trans HSL.out.2.1.size HB.out.size)))
    generalize dyn k = D at *
    generalize errf D = K2 at *
    have HK0 := Lib.hid h0
    clear h0 HER HEV
    cases ox with
    | none =>
      have HT0 := Lib.hid (show tt = ([], 13) from HTT.out.2.1 HK0.out (by first | rfl | trivial))
      clear HTT
      go_wp2_with fail
      refine HC.out.mono ?_
      intro r5 w5 h5
      obtain ⟨⟨u, pv, rfl⟩, hB5⟩ := TXP.n h5
      have hi := HI2.out.below hB5
      have he := HE2.out.below hB5
      refine leaves_cons (f := 61) (args := #[.pointer (some ⟨ib, 0, none⟩), .pointer (some ⟨er, 0, none⟩)]) (by simp) (by simp [go_sem]) ?_
      refine (catch_p61 u pv [] (hi.cell 0 rfl) (hi.free 0 (by simp)) (he.cell 0 rfl) (he.free 0 (by simp)) hnei).mono ?_
      rintro e u' w'' ⟨rfl, rfl, rfl⟩
      have hi4 := (hi.set (j := 0) (.string ⟨#[]⟩)).other (p := ⟨er, 0, none⟩) (.int .i64 13) hne
      have he4 := (he.other (p := ⟨ib, 0, none⟩) (.string ⟨#[]⟩) (Ne.symm hne)).set (j := 0) (.int .i64 13)
      rw [HT0.out]
      exact ⟨_, t_res rfl rfl hi4 he4, rfl, t_below HB.out (bel_tr HBA.out hB5) (by have := HAD.out; omega) (by have := HAD.out; omega) _ _⟩
    | some s =>
      have HT0 := Lib.hid (show tt = (s, 0) from HTT.out.2.2 HK0.out s (by first | rfl | trivial))
      clear HTT
      go_wp2_with fail
      refine HC.out.mono ?_
      intro r5 w5 h5
      obtain ⟨rfl, hB5⟩ := TXP.s h5
      have hi := HI2.out.below hB5
      have he := HE2.out.below hB5
      have HI3 := Lib.hid hi
      have HE3 := Lib.hid he
      have HB5 := Lib.hid hB5
      have i0 := hi.cell 0 rfl
      have i1 := hi.free 0 (by simp)
      have e0 := he.cell 0 rfl
      have e1 := he.free 0 (by simp)
      clear hi he hB5 h5
      go_wp2_with fail
      refine leaves_cons (f := 61) (args := #[.pointer (some ⟨ib, 0, none⟩), .pointer (some ⟨er, 0, none⟩)]) (by simp) (by simp [go_sem]) ?_
      refine (catch_idle61 _ _ _).mono ?_
      rintro e u' w'' ⟨rfl, rfl, rfl⟩
      have hi4 := (HI3.out.set (j := 0) (.string ⟨s.toArray⟩)).other (p := ⟨er, 0, none⟩) (.int .i64 0) hne
      have he4 := (HE3.out.other (p := ⟨ib, 0, none⟩) (.string ⟨s.toArray⟩) (Ne.symm hne)).set (j := 0) (.int .i64 0)
      rw [HT0.out]
      exact ⟨_, t_res rfl rfl hi4 he4, rfl, t_below HB.out (bel_tr HBA.out HB5.out) (by have := HAD.out; omega) (by have := HAD.out; omega) _ _⟩
end Go.Proofs.YtbldidiibkcelaaGreatDoor

