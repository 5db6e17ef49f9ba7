/-
  The chain of readers: how it lies in memory; the methods of its values; the walk of plain's read. Not a statement of the seat.
-/
import Derived.Test.YtigfgdefgnahpaaDoorSrcRead
namespace Go.Proofs.YtigfgdefgnahpaaDoor
open Go.RowKit

theorem mRd104 (a : Addr) (w : World) : (method 305 104 (.agg #[.pointer (some a)]) "conduit/pipe.read").run Tryd.prog w = .ok (82, .pointer (some a)) w := by kernel_rfl
theorem mRd54 (a : Addr) (w : World) : (method 305 54 (.pointer (some a)) "conduit/pipe.read").run Tryd.prog w = .ok (82, .pointer (some a)) w := by kernel_rfl
theorem mRd135 (b f : Value) (c : Value) (w : World) : (method 305 135 (.agg #[b, c, f]) "conduit/pipe.read").run Tryd.prog w = .ok (92, .agg #[b, c]) w := by kernel_rfl
theorem mRd130 (b : Value) (c : Value) (w : World) : (method 305 130 (.agg #[b, c]) "conduit/pipe.read").run Tryd.prog w = .ok (92, .agg #[b, c]) w := by kernel_rfl
theorem mRd139 (b : Value) (w : World) : (method 305 139 (.agg #[b]) "conduit/pipe.read").run Tryd.prog w = .ok (95, .agg #[b]) w := by kernel_rfl
theorem mRd137 (b c : Value) (w : World) : (method 305 137 (.agg #[b, c]) "conduit/pipe.read").run Tryd.prog w = .ok (94, .agg #[b, c]) w := by kernel_rfl
theorem mRd58 (a : Addr) (w : World) : (method 305 58 (.pointer (some a)) "conduit/pipe.read").run Tryd.prog w = .ok (86, .pointer (some a)) w := by kernel_rfl

/-- the method of the interface value v: the function K, called with rv ahead -/
def Meth (name : String) (v : Value) (K : FuncId) (rv : Value) : Prop := ∃ T x, v = .iface T x ∧ (∀ w, (method 305 T x name).run Tryd.prog w = .ok (K, rv) w) ∧ ∀ args w, (callFunc K args).run Tryd.prog w = .ok (.enter K args) w
theorem cf82 (args : Array Value) (w : World) : (callFunc 82 args).run Tryd.prog w = .ok (.enter 82 args) w := by kernel_rfl
theorem cf86 (args : Array Value) (w : World) : (callFunc 86 args).run Tryd.prog w = .ok (.enter 86 args) w := by kernel_rfl
theorem cf92 (args : Array Value) (w : World) : (callFunc 92 args).run Tryd.prog w = .ok (.enter 92 args) w := by kernel_rfl
theorem cf94 (args : Array Value) (w : World) : (callFunc 94 args).run Tryd.prog w = .ok (.enter 94 args) w := by kernel_rfl
theorem cf95 (args : Array Value) (w : World) : (callFunc 95 args).run Tryd.prog w = .ok (.enter 95 args) w := by kernel_rfl
theorem Meth.unique (w : World) {name : String} {v : Value} {K K' : FuncId} {rv rv' : Value} (h : Meth name v K rv) (g : Meth name v K' rv') : K = K' ∧ rv = rv' := by
  obtain ⟨T, x, rfl, h1, _⟩ := h
  obtain ⟨T', x', e, h2, _⟩ := g
  cases e
  have h3 := (h1 w).symm.trans (h2 w)
  cases h3
  exact ⟨rfl, rfl⟩

/-- a source's shape: does it write by itself? in which block does the wrapper of each level lie (0: the source)? -/
structure Sh where
  wr : Bool
  bl : Nat → Nat
def WrapAt (w : World) (r : Own) (k b : Nat) (fast : Bool) (below v : Value) (x : Wr) : Prop :=
  if x.op = 2 then ∃ cb, v = (if fast then .iface 135 (.agg #[below, .pointer (some ⟨cb, 0, none⟩), below]) else .iface 130 (.agg #[below, .pointer (some ⟨cb, 0, none⟩)])) ∧ r cb = some k ∧ Blk w cb [.int .i64 x.cnt] ∧ cb = b
  else if x.op = 3 then ∃ lb, v = .iface 58 (.pointer (some ⟨lb, 0, none⟩)) ∧ r lb = some k ∧ Blk w lb [below, .int .i64 x.lim] ∧ lb = b
  else if x.op = 4 then ∃ tb bk, v = .iface 137 (.agg #[below, .iface 55 (.pointer (some ⟨tb, 0, none⟩))]) ∧ TankAt w r k tb x.tank false bk ∧ tb = b
  else v = .iface 139 (.agg #[below])
def fastB (wr : Bool) (l : List Wr) : Bool := wr && l.all (fun x => x.op == 2)
/-- the chain: the outermost wrapper first -/
def Chain (w : World) (r : Own) (wr : Sh) : Value → List Wr → Sc → Prop
  | v, [], s => ∃ fs, v = (if wr.wr then .iface 104 (.agg #[.pointer (some ⟨fs, 0, none⟩)]) else .iface 54 (.pointer (some ⟨fs, 0, none⟩))) ∧ SrcAt w r fs wr.wr s ∧ fs = wr.bl 0
  | v, x :: l, s => ∃ below, Chain w r wr below l s ∧ WrapAt w r (l.length + 1) (wr.bl (l.length + 1)) (fastB wr.wr l) below v x

theorem WrapAt.step {K : Nat → Prop} {w w' : World} {r r' : Own} {k b : Nat} {fast : Bool} {below v : Value} {x : Wr} (h : WrapAt w r k b fast below v x) (g : Step K w r w' r') (hk : ¬ K k) : WrapAt w' r' k b fast below v x := by
  unfold WrapAt at h ⊢
  by_cases h2 : x.op = 2
  · rw [if_pos h2] at h ⊢
    obtain ⟨cb, h1, h2, h3, h4⟩ := h
    exact ⟨cb, h1, g.oldK h3.lt h2, h3.step g h2 hk, h4⟩
  · rw [if_neg h2] at h ⊢
    by_cases h3 : x.op = 3
    · rw [if_pos h3] at h ⊢
      obtain ⟨cb, h1, h2, h3, h4⟩ := h
      exact ⟨cb, h1, g.oldK h3.lt h2, h3.step g h2 hk, h4⟩
    · rw [if_neg h3] at h ⊢
      by_cases h4 : x.op = 4
      · rw [if_pos h4] at h ⊢
        obtain ⟨tb, bk, h1, h2, h5⟩ := h
        exact ⟨tb, bk, h1, h2.step g hk, h5⟩
      · rw [if_neg h4] at h ⊢
        exact h
theorem Chain.step {K : Nat → Prop} {w w' : World} {r r' : Own} {wr : Sh} : ∀ {l : List Wr} {v : Value} {s : Sc}, Chain w r wr v l s → Step K w r w' r' → (∀ k, k ≤ l.length → ¬ K k) → ¬ K 30 → Chain w' r' wr v l s
  | [], v, s, h, g, hk, h30 => by
    obtain ⟨fs, h1, h2, h3⟩ := h
    exact ⟨fs, h1, h2.step g (hk 0 (Nat.le_refl _)) h30, h3⟩
  | x :: l, v, s, h, g, hk, h30 => by
    obtain ⟨below, h1, h2⟩ := h
    exact ⟨below, h1.step g (fun k hl => hk k (by simp; omega)) h30, h2.step g (hk _ (by simp))⟩

theorem chainMeth {w : World} {r : Own} {wr : Sh} : ∀ {l : List Wr} {v : Value} {s : Sc}, Chain w r wr v l s → ∃ K rv, Meth "conduit/pipe.read" v K rv
  | [], v, s, h => by
    obtain ⟨fs, rfl, h2⟩ := h
    cases wr.wr
    · exact ⟨82, _, _, _, rfl, fun w => mRd54 _ w, cf82⟩
    · exact ⟨82, _, _, _, rfl, fun w => mRd104 _ w, cf82⟩
  | x :: l, v, s, h => by
    obtain ⟨below, h1, h2⟩ := h
    unfold WrapAt at h2
    split at h2
    · obtain ⟨cb, rfl, _⟩ := h2
      split
      · exact ⟨92, _, _, _, rfl, fun w => mRd135 _ _ _ w, cf92⟩
      · exact ⟨92, _, _, _, rfl, fun w => mRd130 _ _ w, cf92⟩
    · split at h2
      · obtain ⟨lb, rfl, _⟩ := h2
        exact ⟨86, _, _, _, rfl, fun w => mRd58 _ w, cf86⟩
      · split at h2
        · obtain ⟨tb, bk, rfl, _⟩ := h2
          exact ⟨94, _, _, _, rfl, fun w => mRd137 _ _ w, cf94⟩
        · subst h2
          exact ⟨95, _, _, _, rfl, fun w => mRd139 _ w, cf95⟩

/-- returned v, and Q holds behind -/
def PostV (v : Value) (Q : World → Prop) (e : Ending) (w' : World) : Prop := e = .returned v ∧ Q w'
/-- behind a reading through the chain -/
def GotW (wr : Sh) (v : Value) (l : List Wr) (s : Sc) (m q : Nat) (pa : Option Addr) (pc : Nat) (w : World) (r : Own) (w' : World) : Prop :=
  ∃ r', Step (fun k => k ≤ l.length ∨ k = q) w r w' r' ∧ Chain w' r' wr v (readM l s m).l (readM l s m).s ∧ ReadInto s (readM l s m).n w w' r' q pa m pc

set_option maxRecDepth 100000 in
theorem plainRead {below : Value} {K : FuncId} {rv : Value} {pa : Option Addr} {m pc : Nat} {w : World} {n : Nat} {ev : Value} {Q : World → Prop} (hM : Meth "conduit/pipe.read" below K rv)
    (hin : Calls Tryd.prog K #[rv, .slice pa m pc] (w.alloc (.cells #[below] 139)) (PostV (.tuple #[.int .i64 n, ev]) Q)) :
    Calls Tryd.prog 95 #[.agg #[below], .slice pa m pc] w (PostV (.tuple #[.int .i64 n, ev]) Q) := by
  obtain ⟨T, x, rfl, hm, hcf⟩ := hM
  go_enter Tryd.func95, Tryd.ntmps95
  go_wp2_with fail
  refine hin.mono ?_
  rintro e w' ⟨rfl, hq⟩
  have HQ := Lib.hid hq
  clear hq
  go_wp2
  refine bodyPost_ret (v := .tuple #[.int .i64 (n : Int), ev]) (by simp [results, Tryd.f95, go_sem]) rfl ?_
  exact ⟨rfl, HQ.out⟩

set_option maxRecDepth 100000 in
theorem countRead {below : Value} {K : FuncId} {rv : Value} {pa : Option Addr} {m pc cb : Nat} {w : World} {n : Nat} {c : Int} {ev : Value} {Q Q' : World → Prop} (hM : Meth "conduit/pipe.read" below K rv)
    (hin : Calls Tryd.prog K #[rv, .slice pa m pc] (w.alloc (.cells #[below, .pointer (some ⟨cb, 0, none⟩)] 130)) (PostV (.tuple #[.int .i64 n, ev]) Q))
    (hc : 0 ≤ c ∧ c + n ≤ 1000000) (hcell : ∀ w', Q w' → w'.cell? ⟨cb, 0, none⟩ = some (.int .i64 c) ∧ w'.frozen? ⟨cb, 0, none⟩ = false ∧ w'.cell? ⟨w.heap.size, 1, none⟩ = some (.pointer (some ⟨cb, 0, none⟩)))
    (hQ : ∀ w', Q w' → Q' (w'.setCell ⟨cb, 0, none⟩ (.int .i64 (c + n)))) :
    Calls Tryd.prog 92 #[.agg #[below, .pointer (some ⟨cb, 0, none⟩)], .slice pa m pc] w (PostV (.tuple #[.int .i64 n, ev]) Q') := by
  obtain ⟨T, x, rfl, hm, hcf⟩ := hM
  have HCC := Lib.hid hcell
  have HQ2 := Lib.hid hQ
  clear hcell hQ
  obtain ⟨hc0, hc1⟩ := hc
  go_enter Tryd.func92, Tryd.ntmps92
  go_wp2_with fail
  refine hin.mono ?_
  rintro e w' ⟨rfl, hq⟩
  obtain ⟨e1, e2, e3⟩ := HCC.out w' hq
  have HQ := Lib.hid hq
  clear hq
  go_wp2
  refine bodyPost_ret (v := .tuple #[.int .i64 (n : Int), ev]) (by simp [results, Tryd.f92, go_sem]) rfl ?_
  exact ⟨rfl, HQ2.out _ HQ.out⟩

set_option maxRecDepth 100000 in
theorem limRead0 {lb eb m pc : Nat} {pa : Option Addr} {lim : Int} {w : World} {Q : World → Prop} (c1 : w.cell? ⟨lb, 1, none⟩ = some (.int .i64 lim)) (hl : lim ≤ 0) (c : w.cell? ⟨0, 0, none⟩ = some (EOFv eb)) (hQ : ∀ n, Q (w.drewN n)) :
    Calls Tryd.prog 86 #[.pointer (some ⟨lb, 0, none⟩), .slice pa m pc] w (PostV (.tuple #[.int .i64 0, EOFv eb]) Q) := by
  have HQ := Lib.hid hQ
  clear hQ
  obtain ⟨ev, hev⟩ : ∃ ev, EOFv eb = ev := ⟨_, rfl⟩
  rw [hev] at c ⊢
  clear hev
  go_enter Tryd.func86, Tryd.ntmps86
  go_wp2_with fail
  go_quiet (fail)
  go_wp2
  refine bodyPost_ret (v := .tuple #[.int .i64 0, ev]) (by simp [results, Tryd.f86, go_sem]) rfl ?_
  exact ⟨rfl, HQ.out _⟩

set_option maxRecDepth 100000 in
theorem limReadA {below : Value} {K : FuncId} {rv : Value} {lb m pc n : Nat} {pa : Option Addr} {lim : Int} {ev : Value} {w : World} {Q Q' : World → Prop} (hM : Meth "conduit/pipe.read" below K rv)
    (c0 : w.cell? ⟨lb, 0, none⟩ = some below) (c1 : w.cell? ⟨lb, 1, none⟩ = some (.int .i64 lim)) (hl : 0 < lim) (hm : (m : Int) ≤ lim) (hl2 : lim ≤ 9223372036854775807) (hn : n ≤ m)
    (hin : Calls Tryd.prog K #[rv, .slice pa m pc] w (PostV (.tuple #[.int .i64 n, ev]) Q))
    (hcell : ∀ w', Q w' → w'.cell? ⟨lb, 1, none⟩ = some (.int .i64 lim) ∧ w'.frozen? ⟨lb, 1, none⟩ = false)
    (hQ : ∀ w', Q w' → Q' (w'.setCell ⟨lb, 1, none⟩ (.int .i64 (lim - n)))) :
    Calls Tryd.prog 86 #[.pointer (some ⟨lb, 0, none⟩), .slice pa m pc] w (PostV (.tuple #[.int .i64 n, ev]) Q') := by
  obtain ⟨T, x, rfl, hmm, hcf⟩ := hM
  have HCC := Lib.hid hcell
  have HQ2 := Lib.hid hQ
  clear hcell hQ
  have d1 : decide (lim ≤ 0) = false := by simp; omega
  have d2 : decide (lim < (m : Int)) = false := by simp; omega
  go_enter Tryd.func86, Tryd.ntmps86
  go_wp2_with fail
  refine hin.mono ?_
  rintro e w' ⟨rfl, hq⟩
  obtain ⟨e1, e2⟩ := HCC.out w' hq
  have HQ := Lib.hid hq
  clear hq c0 c1
  go_wp2
  refine bodyPost_ret (v := .tuple #[.int .i64 (n : Int), ev]) (by simp [results, Tryd.f86, go_sem]) rfl ?_
  exact ⟨rfl, HQ2.out _ HQ.out⟩

set_option maxRecDepth 100000 in
theorem limReadB {below : Value} {K : FuncId} {rv : Value} {lb m pc n L : Nat} {pa : Option Addr} {ev : Value} {w : World} {Q Q' : World → Prop} (hM : Meth "conduit/pipe.read" below K rv)
    (c0 : w.cell? ⟨lb, 0, none⟩ = some below) (c1 : w.cell? ⟨lb, 1, none⟩ = some (.int .i64 (L : Int))) (hl : 0 < L) (hm : L < m) (hmc : m ≤ pc) (hn : n ≤ L) (hm1 : m ≤ 1000000)
    (hin : Calls Tryd.prog K #[rv, .slice pa L pc] w (PostV (.tuple #[.int .i64 n, ev]) Q))
    (hcell : ∀ w', Q w' → w'.cell? ⟨lb, 1, none⟩ = some (.int .i64 (L : Int)) ∧ w'.frozen? ⟨lb, 1, none⟩ = false)
    (hQ : ∀ w', Q w' → Q' (w'.setCell ⟨lb, 1, none⟩ (.int .i64 ((L : Int) - n)))) :
    Calls Tryd.prog 86 #[.pointer (some ⟨lb, 0, none⟩), .slice pa m pc] w (PostV (.tuple #[.int .i64 n, ev]) Q') := by
  obtain ⟨T, x, rfl, hmm, hcf⟩ := hM
  have HCC := Lib.hid hcell
  have HQ2 := Lib.hid hQ
  clear hcell hQ
  have d1 : decide ((L : Int) ≤ 0) = false := by simp; omega
  have d2 : decide ((L : Int) < (m : Int)) = true := by simp; omega
  have d3 : L ≤ pc := by omega
  have d4 : (L : Int) ≤ pc := by omega
  go_enter Tryd.func86, Tryd.ntmps86
  go_wp2_with fail
  refine hin.mono ?_
  rintro e w' ⟨rfl, hq⟩
  obtain ⟨e1, e2⟩ := HCC.out w' hq
  have HQ := Lib.hid hq
  clear hq c0 c1
  go_wp2
  refine bodyPost_ret (v := .tuple #[.int .i64 (n : Int), ev]) (by simp [results, Tryd.f86, go_sem]) rfl ?_
  exact ⟨rfl, HQ2.out _ HQ.out⟩

theorem mWr55 (a : Addr) (w : World) : (method 305 55 (.pointer (some a)) "conduit/pipe.write").run Tryd.prog w = .ok (85, .pointer (some a)) w := by kernel_rfl

set_option maxRecDepth 100000 in
theorem teeRead0 {below sv : Value} {K : FuncId} {rv : Value} {pa : Option Addr} {m pc : Nat} {w : World} {ev : Value} {Q : World → Prop} (hM : Meth "conduit/pipe.read" below K rv)
    (hin : Calls Tryd.prog K #[rv, .slice pa m pc] (w.alloc (.cells #[below, sv] 137)) (PostV (.tuple #[.int .i64 0, ev]) Q)) :
    Calls Tryd.prog 94 #[.agg #[below, sv], .slice pa m pc] w (PostV (.tuple #[.int .i64 0, ev]) Q) := by
  obtain ⟨T, x, rfl, hm, hcf⟩ := hM
  go_enter Tryd.func94, Tryd.ntmps94
  go_wp2_with fail
  refine hin.mono ?_
  rintro e w' ⟨rfl, hq⟩
  have HQ := Lib.hid hq
  clear hq
  go_wp2
  refine bodyPost_ret (v := .tuple #[.int .i64 0, ev]) (by simp [results, Tryd.f94, go_sem]) rfl ?_
  exact ⟨rfl, HQ.out⟩

set_option maxRecDepth 100000 in
theorem teeReadOk {below : Value} {K : FuncId} {rv : Value} {pa : Option Addr} {m pc tb said : Nat} {w : World} {n : Nat} {ev : Value} {Q Q' : World → Prop} (hM : Meth "conduit/pipe.read" below K rv)
    (hin : Calls Tryd.prog K #[rv, .slice pa m pc] (w.alloc (.cells #[below, .iface 55 (.pointer (some ⟨tb, 0, none⟩))] 137)) (PostV (.tuple #[.int .i64 n, ev]) Q)) (hn : 0 < n) (hnm : n ≤ m) (hmp : m ≤ pc)
    (hcell : ∀ w', Q w' → w'.cell? ⟨w.heap.size, 1, none⟩ = some (.iface 55 (.pointer (some ⟨tb, 0, none⟩))))
    (hw : ∀ w', Q w' → Calls Tryd.prog 85 #[.pointer (some ⟨tb, 0, none⟩), .slice pa n pc] w'.drew (PostV (.tuple #[.int .i64 said, .nilIface]) Q')) :
    Calls Tryd.prog 94 #[.agg #[below, .iface 55 (.pointer (some ⟨tb, 0, none⟩))], .slice pa m pc] w (PostV (.tuple #[.int .i64 (n : Nat), ev]) Q') := by
  obtain ⟨T, x, rfl, hm, hcf⟩ := hM
  have HCC := Lib.hid hcell
  have HW := Lib.hid hw
  clear hcell hw
  have d1 : decide ((0 : Int) < (n : Int)) = true := by simp; omega
  have d2 : n ≤ pc := by omega
  have d3 : (n : Int) ≤ pc := by omega
  have mw := fun w => mWr55 ⟨tb, 0, none⟩ w
  have na := fun w => (show (nilAhead 305 55 (.pointer (some ⟨tb, 0, none⟩)) "conduit/pipe.write").run Tryd.prog w = .ok (some false) w by kernel_rfl)
  go_enter Tryd.func94, Tryd.ntmps94
  go_wp2_with fail
  refine hin.mono ?_
  rintro e w' ⟨rfl, hq⟩
  have e1 := HCC.out w' hq
  have HQ := Lib.hid hq
  clear hq
  go_wp2_with fail
  go_region_law (first | (go_simp; go_at_call 85; refine (HW.out w' HQ.out).mono ?_; rintro e w2 ⟨rfl, hq2⟩; have HQ2 := Lib.hid hq2; clear hq2))
  all_goals
    go_wp2
    refine bodyPost_ret (v := .tuple #[.int .i64 (n : Nat), ev]) (by simp [results, Tryd.f94, go_sem]) rfl ?_
    exact ⟨rfl, HQ2.out⟩

set_option maxRecDepth 100000 in
theorem teeReadFull {below : Value} {K : FuncId} {rv : Value} {pa : Option Addr} {m pc tb said : Nat} {w : World} {n : Nat} {ev : Value} {Q Q' : World → Prop} (hM : Meth "conduit/pipe.read" below K rv)
    (hin : Calls Tryd.prog K #[rv, .slice pa m pc] (w.alloc (.cells #[below, .iface 55 (.pointer (some ⟨tb, 0, none⟩))] 137)) (PostV (.tuple #[.int .i64 n, ev]) Q)) (hn : 0 < n) (hnm : n ≤ m) (hmp : m ≤ pc)
    (hcell : ∀ w', Q w' → w'.cell? ⟨w.heap.size, 1, none⟩ = some (.iface 55 (.pointer (some ⟨tb, 0, none⟩))))
    (hw : ∀ w', Q w' → Calls Tryd.prog 85 #[.pointer (some ⟨tb, 0, none⟩), .slice pa n pc] w'.drew (PostV (.tuple #[.int .i64 said, .iface 33 (.int .i64 362)]) Q')) :
    Calls Tryd.prog 94 #[.agg #[below, .iface 55 (.pointer (some ⟨tb, 0, none⟩))], .slice pa m pc] w (PostV (.tuple #[.int .i64 (said : Nat), .iface 33 (.int .i64 362)]) Q') := by
  obtain ⟨T, x, rfl, hm, hcf⟩ := hM
  have HCC := Lib.hid hcell
  have HW := Lib.hid hw
  clear hcell hw
  have d1 : decide ((0 : Int) < (n : Int)) = true := by simp; omega
  have d2 : n ≤ pc := by omega
  have d3 : (n : Int) ≤ pc := by omega
  have mw := fun w => mWr55 ⟨tb, 0, none⟩ w
  have na := fun w => (show (nilAhead 305 55 (.pointer (some ⟨tb, 0, none⟩)) "conduit/pipe.write").run Tryd.prog w = .ok (some false) w by kernel_rfl)
  go_enter Tryd.func94, Tryd.ntmps94
  go_wp2_with fail
  refine hin.mono ?_
  rintro e w' ⟨rfl, hq⟩
  have e1 := HCC.out w' hq
  have HQ := Lib.hid hq
  clear hq
  go_wp2_with fail
  go_region_law (first | (go_simp; go_at_call 85; refine (HW.out w' HQ.out).mono ?_; rintro e w2 ⟨rfl, hq2⟩; have HQ2 := Lib.hid hq2; clear hq2))
  all_goals
    go_wp2
    refine bodyPost_ret (v := .tuple #[.int .i64 (said : Nat), .iface 33 (.int .i64 362)]) (by simp [results, Tryd.f94, go_sem]) rfl ?_
    exact ⟨rfl, HQ2.out⟩

end Go.Proofs.YtigfgdefgnahpaaDoor
