/-
  The chain of sinks: how it lies in memory; its write. Not a statement of the seat.
-/
import Derived.Test.YtigfgdefgnahpaaDoorReads
namespace Go.Proofs.YtigfgdefgnahpaaDoor
open Go.RowKit

theorem mWr108 (a : Addr) (w : World) : (method 305 108 (.agg #[.pointer (some a)]) "conduit/pipe.write").run Tryd.prog w = .ok (85, .pointer (some a)) w := by kernel_rfl
theorem mWr114 (b c : Value) (w : World) : (method 305 114 (.agg #[b, c]) "conduit/pipe.write").run Tryd.prog w = .ok (90, .agg #[b, c]) w := by kernel_rfl
theorem mWr119 (b c f : Value) (w : World) : (method 305 119 (.agg #[b, c, f]) "conduit/pipe.write").run Tryd.prog w = .ok (90, .agg #[b, c]) w := by kernel_rfl
theorem mWr110 (b : Value) (w : World) : (method 305 110 (.agg #[b]) "conduit/pipe.write").run Tryd.prog w = .ok (89, .agg #[b]) w := by kernel_rfl
theorem cf85 (args : Array Value) (w : World) : (callFunc 85 args).run Tryd.prog w = .ok (.enter 85 args) w := by kernel_rfl
theorem cf89 (args : Array Value) (w : World) : (callFunc 89 args).run Tryd.prog w = .ok (.enter 89 args) w := by kernel_rfl
theorem cf90 (args : Array Value) (w : World) : (callFunc 90 args).run Tryd.prog w = .ok (.enter 90 args) w := by kernel_rfl

/-- a wrapper of a sink: is it a count, and what has it counted? -/
abbrev KW := Bool × Int
def addK (n : Nat) (x : KW) : KW := (x.1, if x.1 then x.2 + n else x.2)
def fastK (rd : Bool) (l : List KW) : Bool := rd && l.all (·.1)
/-- a sink's shape: does it read by itself? with how many bytes? in which block does the wrapper of each level lie (0: the sink)? -/
structure Sk where
  rd : Bool
  bl : Nat → Nat
def SinkWrap (w : World) (r : Own) (k b : Nat) (fast : Bool) (below v : Value) (x : KW) : Prop :=
  if x.1 then ∃ cb, v = (if fast then .iface 119 (.agg #[below, .pointer (some ⟨cb, 0, none⟩), below]) else .iface 114 (.agg #[below, .pointer (some ⟨cb, 0, none⟩)])) ∧ r cb = some k ∧ Blk w cb [.int .i64 x.2] ∧ cb = b
  else v = .iface 110 (.agg #[below])
def SinkAt (w : World) (r : Own) (rd : Sk) (bk : Int) : Value → List KW → Tank → Prop
  | v, [], t => ∃ tb, v = (if rd.rd then .iface 108 (.agg #[.pointer (some ⟨tb, 0, none⟩)]) else .iface 55 (.pointer (some ⟨tb, 0, none⟩))) ∧ TankAt w r 40 tb t rd.rd bk ∧ tb = rd.bl 0
  | v, x :: l, t => ∃ below, SinkAt w r rd bk below l t ∧ SinkWrap w r (41 + l.length) (rd.bl (l.length + 1)) (fastK rd.rd l) below v x

theorem SinkWrap.step {K : Nat → Prop} {w w' : World} {r r' : Own} {k b : Nat} {fast : Bool} {below v : Value} {x : KW} (h : SinkWrap w r k b fast below v x) (g : Step K w r w' r') (hk : ¬ K k) : SinkWrap w' r' k b fast below v x := by
  unfold SinkWrap at h ⊢
  by_cases h2 : x.1 = true
  · rw [if_pos h2] at h ⊢
    obtain ⟨cb, h1, h2, h3, h4⟩ := h
    exact ⟨cb, h1, g.oldK h3.lt h2, h3.step g h2 hk, h4⟩
  · rw [if_neg h2] at h ⊢
    exact h
theorem SinkAt.step {K : Nat → Prop} {w w' : World} {r r' : Own} {rd : Sk} {bk : Int} : ∀ {l : List KW} {v : Value} {t : Tank}, SinkAt w r rd bk v l t → Step K w r w' r' → (∀ k, 40 ≤ k → k ≤ 40 + l.length → ¬ K k) → SinkAt w' r' rd bk v l t
  | [], v, t, h, g, hk => by
    obtain ⟨tb, h1, h2, h3⟩ := h
    exact ⟨tb, h1, h2.step g (hk 40 (Nat.le_refl _) (by simp)), h3⟩
  | x :: l, v, t, h, g, hk => by
    obtain ⟨below, h1, h2⟩ := h
    exact ⟨below, h1.step g (fun k h1 h2 => hk k h1 (by simp; omega)), h2.step g (hk _ (by omega) (by simp; omega))⟩
theorem sinkMeth {w : World} {r : Own} {rd : Sk} {bk : Int} : ∀ {l : List KW} {v : Value} {t : Tank}, SinkAt w r rd bk v l t → ∃ K rv, Meth "conduit/pipe.write" v K rv
  | [], v, t, h => by
    obtain ⟨fs, rfl, h2⟩ := h
    cases rd.rd
    · exact ⟨85, _, _, _, rfl, fun w => mWr55 _ w, cf85⟩
    · exact ⟨85, _, _, _, rfl, fun w => mWr108 _ w, cf85⟩
  | x :: l, v, t, h => by
    obtain ⟨below, h1, h2⟩ := h
    unfold SinkWrap at h2
    split at h2
    · obtain ⟨cb, rfl, _⟩ := h2
      split
      · exact ⟨90, _, _, _, rfl, fun w => mWr119 _ _ _ w, cf90⟩
      · exact ⟨90, _, _, _, rfl, fun w => mWr114 _ _ w, cf90⟩
    · subst h2
      exact ⟨89, _, _, _, rfl, fun w => mWr110 _ w, cf89⟩

set_option maxRecDepth 100000 in
theorem plainSinkWrite {below : Value} {K : FuncId} {rv : Value} {pa : Option Addr} {m pc : Nat} {w : World} {n : Nat} {ev : Value} {Q : World → Prop} (hM : Meth "conduit/pipe.write" below K rv)
    (hin : Calls Tryd.prog K #[rv, .slice pa m pc] (w.alloc (.cells #[below] 110)) (PostV (.tuple #[.int .i64 n, ev]) Q)) :
    Calls Tryd.prog 89 #[.agg #[below], .slice pa m pc] w (PostV (.tuple #[.int .i64 n, ev]) Q) := by
  obtain ⟨T, x, rfl, hm, hcf⟩ := hM
  go_enter Tryd.func89, Tryd.ntmps89
  go_wp2_with fail
  refine hin.mono ?_
  rintro e w' ⟨rfl, hq⟩
  have HQ := Lib.hid hq
  clear hq
  go_wp2
  refine bodyPost_ret (v := .tuple #[.int .i64 (n : Int), ev]) (by simp [results, Tryd.f89, go_sem]) rfl ?_
  exact ⟨rfl, HQ.out⟩

set_option maxRecDepth 100000 in
theorem countSinkWrite {below : Value} {K : FuncId} {rv : Value} {pa : Option Addr} {m pc cb : Nat} {w : World} {n : Nat} {c : Int} {ev : Value} {Q Q' : World → Prop} (hM : Meth "conduit/pipe.write" below K rv)
    (hin : Calls Tryd.prog K #[rv, .slice pa m pc] (w.alloc (.cells #[below, .pointer (some ⟨cb, 0, none⟩)] 114)) (PostV (.tuple #[.int .i64 n, ev]) Q))
    (hc : 0 ≤ c ∧ c + n ≤ 10000000) (hcell : ∀ w', Q w' → w'.cell? ⟨cb, 0, none⟩ = some (.int .i64 c) ∧ w'.frozen? ⟨cb, 0, none⟩ = false ∧ w'.cell? ⟨w.heap.size, 1, none⟩ = some (.pointer (some ⟨cb, 0, none⟩)))
    (hQ : ∀ w', Q w' → Q' (w'.setCell ⟨cb, 0, none⟩ (.int .i64 (c + n)))) :
    Calls Tryd.prog 90 #[.agg #[below, .pointer (some ⟨cb, 0, none⟩)], .slice pa m pc] w (PostV (.tuple #[.int .i64 n, ev]) Q') := by
  obtain ⟨T, x, rfl, hm, hcf⟩ := hM
  have HCC := Lib.hid hcell
  have HQ2 := Lib.hid hQ
  clear hcell hQ
  obtain ⟨hc0, hc1⟩ := hc
  have hmx : (if (n : Int) < 0 then (0 : Int) else n) = n := by rw [if_neg (by omega)]
  have hmx2 : (if (0 : Int) < n then (n : Int) else 0) = n := by split <;> omega
  go_enter Tryd.func90, Tryd.ntmps90
  go_wp2_with fail
  refine hin.mono ?_
  rintro e w' ⟨rfl, hq⟩
  obtain ⟨e1, e2, e3⟩ := HCC.out w' hq
  have HQ := Lib.hid hq
  clear hq
  go_wp2
  refine bodyPost_ret (v := .tuple #[.int .i64 (n : Int), ev]) (by simp [results, Tryd.f90, go_sem]) rfl ?_
  exact ⟨rfl, HQ2.out _ HQ.out⟩

def SunkW (rd : Sk) (bk : Int) (v : Value) (l : List KW) (t : Tank) (bs : Bytes) (w : World) (r : Own) (w' : World) : Prop :=
  ∃ r', Step (fun k => 40 ≤ k ∧ k ≤ 40 + l.length) w r w' r' ∧ SinkAt w' r' rd bk v (l.map (addK (t.said bs.length))) (t.put bs)
theorem fastK_add (rd : Bool) (l : List KW) (n : Nat) : fastK rd (l.map (addK n)) = fastK rd l := by
  unfold fastK
  rw [List.all_map]
  rfl

theorem sinkWrite {eb : Nat} {rd : Sk} {bk : Int} {t : Tank} {o : Option Nat} {pa : Option Addr} {pn pc : Nat} {bs : Bytes} (hok : t.ok) (ho : ∀ k, o = some k → k < 40) (hlen : t.has.length + bs.length ≤ 1000000) (hk : t.k < 100000000000) :
    ∀ (l : List KW) {v : Value} {w : World} {r : Own} {K : FuncId} {rv : Value}, SinkAt w r rd bk v l t → RdK w r o 1 pa pn pc (B8 bs) → (∀ x ∈ l, 0 ≤ x.2 ∧ x.2 ≤ 1000000) → Bnd w r → Meth "conduit/pipe.write" v K rv →
    Calls Tryd.prog K #[rv, .slice pa pn pc] w (PostV (.tuple #[.int .i64 (t.said bs.length), errV eb (if t.full bs.length then 362 else 0)]) (SunkW rd bk v l t bs w r))
  | [], v, w, r, K, rv, hS, hP, hl, hbnd, hM => by
    obtain ⟨tb, hv, hT, htb⟩ := hS
    obtain ⟨rfl, rfl⟩ : K = 85 ∧ rv = .pointer (some ⟨tb, 0, none⟩) := by
      refine hM.unique w ?_
      rw [hv]
      cases rd.rd
      · exact ⟨_, _, rfl, fun w => mWr55 _ w, cf85⟩
      · exact ⟨_, _, rfl, fun w => mWr108 _ w, cf85⟩
    refine (writeN (eb := eb) hT hok hP (fun e => by have := ho _ e; omega) hlen (by omega) hbnd rfl rfl).mono ?_
    rintro e w' ⟨rfl, r', h1, h2⟩
    exact ⟨rfl, r', h1.mono (fun k hk => by subst hk; simp), ⟨tb, hv, h2, htb⟩⟩
  | x :: l, v, w, r, K, rv, hS, hP, hl, hbnd, hM => by
    obtain ⟨below, hB, hW⟩ := hS
    obtain ⟨K0, rv0, hM0⟩ := sinkMeth hB
    have halloc := fun (o : Obj) => (Step.refl (fun _ => False) hbnd).calm ((Below.refl w.heap.size w).alloc (Nat.le_refl _) o)
    have ih := fun (o' : Obj) => sinkWrite (eb := eb) hok ho hlen hk l (hB.step (halloc o') (fun _ _ _ h => h)) (hP.step (halloc o') (fun _ _ h => h)) (fun y hy => hl y (by simp [hy])) (halloc o').bound hM0
    have hx := hl x (by simp)
    have hsaid : t.said bs.length ≤ bs.length + 1 := by
      have := took_le t bs.length
      unfold Tank.said
      split
      · omega
      · split <;> omega
    unfold SinkWrap at hW
    by_cases h2 : x.1 = true
    · rw [if_pos h2] at hW
      obtain ⟨cb, hv, hcb, hBl, hEQ⟩ := hW
      obtain ⟨rfl, rfl⟩ : K = 90 ∧ rv = .agg #[below, .pointer (some ⟨cb, 0, none⟩)] := by
        refine hM.unique w ?_
        rw [hv]
        cases fastK rd.rd l
        · exact ⟨_, _, rfl, fun w => mWr114 _ _ w, cf90⟩
        · exact ⟨_, _, rfl, fun w => mWr119 _ _ _ w, cf90⟩
      refine countSinkWrite hM0 (c := x.2) (ih _) ⟨hx.1, by omega⟩ (fun w' hG => ?_) (fun w' hG => ?_)
      · obtain ⟨r', g1, g2⟩ := hG
        have hb' := ((hBl.step (halloc _) hcb id).step g1 ((halloc (.cells #[below, .pointer (some ⟨cb, 0, none⟩)] 114)).oldK hBl.lt hcb) (by omega))
        refine ⟨hb'.cell 0 rfl, hb'.free 0 (by simp), ?_⟩
        have hk0 := g1.keep w.heap.size (by simp) (fun k hk => by rw [hbnd _ (Nat.le_refl _)] at hk; cases hk)
        rw [World.cell?_of_block (a := ⟨w.heap.size, 1, none⟩) hk0]
        simp
      · obtain ⟨r', g1, g2⟩ := hG
        have hcb1 := (halloc (.cells #[below, .pointer (some ⟨cb, 0, none⟩)] 114)).oldK hBl.lt hcb
        have hBl1 := hBl.step (halloc (.cells #[below, .pointer (some ⟨cb, 0, none⟩)] 114)) hcb id
        have hcb' := g1.oldK hBl1.lt hcb1
        have k2 : Step (fun k => k = 41 + l.length) w' r' (w'.setCell ⟨cb, 0, none⟩ (.int .i64 (x.2 + (t.said bs.length : Nat)))) r' := (Step.refl _ g1.bound).put _ (fun _ => ⟨_, hcb', rfl⟩)
        refine ⟨r', (((halloc _).mono (fun _ h => h.elim)).trans (g1.mono (fun k hk => by simp; omega))).put _ (fun _ => ⟨_, hcb, by simp; omega⟩), ?_⟩
        refine ⟨below, g2.step k2 (fun k h1 h2 e => by rw [List.length_map] at h2; omega), ?_⟩
        unfold SinkWrap
        rw [if_pos (by simpa [addK] using h2), List.length_map, fastK_add]
        exact ⟨cb, hv, hcb', (by have := (hBl1.step g1 hcb1 (by omega)).set (j := 0) (.int .i64 (x.2 + (t.said bs.length : Nat))); simpa [addK, h2] using this), hEQ⟩
    · rw [if_neg h2] at hW
      subst hW
      obtain ⟨rfl, rfl⟩ : K = 89 ∧ rv = .agg #[below] := hM.unique w ⟨_, _, rfl, fun w => mWr110 _ w, cf89⟩
      refine (plainSinkWrite hM0 (ih _)).mono ?_
      rintro e w' ⟨rfl, r', g1, g2⟩
      refine ⟨rfl, r', ((halloc _).mono (fun _ h => h.elim)).trans (g1.mono (fun k hk => by simp; omega)), ⟨below, g2, ?_⟩⟩
      unfold SinkWrap
      rw [if_neg (by simpa [addK] using h2)]
end Go.Proofs.YtigfgdefgnahpaaDoor
