/-
  The walk of dedup.Knows (a range over an iterator that itself ranges over slices.Backward): it answers whether a number is among the members. Not a statement of the seat.
-/
import Derived.Test.YtoninfccmonaiaaIter
import Derived.Test.YtoninfccmonaiaaSlices
import Derived.Test.YtoninfccmonaiaaProg
import Derived.RangeFuncBound
import Derived.RangeFuncCalls
import Derived.Shelf.RegionOpen
import Derived.OwnWalkIn
import Derived.TacticsInMore
import Derived.LoopNIn
import Derived.LoopIn
import Derived.Lib.Hide
namespace Go.Proofs.Ytoninfccmonaiaa
open Go.RowKit Go.Shelf
attribute [local go_sem] Oper.semAt_some

/-- ints as cells -/
def I64 (zs : List Int) : List Value := zs.map (Value.int .i64)
theorem I64_length (zs : List Int) : (I64 zs).length = zs.length := by simp [I64]
theorem I64_get (zs : List Int) (k : Nat) (h : k < zs.length) : (I64 zs)[k]? = some (.int .i64 (zs[k]?.getD 0)) := by simp [I64, h]
theorem I64_one (zs : List Int) : ∀ u ∈ I64 zs, u.oneCell' = true := by
  intro u hu
  obtain ⟨z, _, rfl⟩ := List.mem_map.1 hu
  rfl
theorem I64_append (a b : List Int) : I64 (a ++ b) = I64 a ++ I64 b := by simp [I64]
theorem I64_drop (a : List Int) (k : Nat) : (I64 a).drop k = I64 (a.drop k) := by simp [I64]
theorem I64_take (a : List Int) (k : Nat) : (I64 a).take k = I64 (a.take k) := by simp [I64]

/-- The slice value reads as these ints. -/
def Ints (w : World) (a : Option Addr) (len cap : Nat) (zs : List Int) : Prop := Rd w 1 a len cap (I64 zs)

theorem Ints.below {w w' : World} {a : Option Addr} {len cap : Nat} {zs : List Int} (h : Ints w a len cap zs) (hb : Below w.heap.size w w') : Ints w' a len cap zs := Rd.below h hb
theorem Ints.len {w : World} {a : Option Addr} {len cap : Nat} {zs : List Int} (h : Ints w a len cap zs) : zs.length = len := by
  have := Rd.len h; rw [I64_length] at this; omega
theorem Ints.bounds {w : World} {a : Option Addr} {len cap : Nat} {zs : List Int} (h : Ints w a len cap zs) : len ≤ cap ∧ cap ≤ 9223372036854775807 := by
  have h1 := Rd.le h
  have h2 := Rd.max h
  unfold maxLen at h2
  exact ⟨h1, by omega⟩
theorem Ints.at {w : World} {a : Option Addr} {len cap : Nat} {zs : List Int} (h : Ints w a len cap zs) {k : Nat} (hk : k < len) :
    ∃ b off, a = some ⟨b, off, none⟩ ∧ b < w.heap.size ∧ w.cell? ⟨b, off + k, none⟩ = some (.int .i64 (zs[k]?.getD 0)) := by
  obtain ⟨b, off, ha, hb, hc⟩ := Rd.at1 h hk
  exact ⟨b, off, ha, hb, by rw [hc, I64_get _ _ (by rw [h.len]; exact hk)]⟩

/-- the first k members with their places, the last one first -/
def down (zs : List Int) (k : Nat) : List (Nat × Int) := ((List.range k).map fun j => (j, zs[j]?.getD 0)).reverse
theorem down_succ (zs : List Int) (k : Nat) : down zs (k + 1) = (k, zs[k]?.getD 0) :: down zs k := by simp [down, List.range_succ]
theorem down_zero (zs : List Int) : down zs 0 = [] := rfl

/-- what lies between two rounds of the walk downwards: k members are still to come -/
def DownAt (zs : List Int) (len k : Nat) (J : List (Nat × Int) → World → Prop) (wr : World) : Prop := ∃ pre, down zs len = pre ++ down zs k ∧ J pre wr

set_option maxRecDepth 100000 in
set_option maxHeartbeats 2000000 in
theorem back_iter (zs : List Int) (a : Option Addr) (len cap Bs : Nat) (w0 w : World) (hz : Ints w0 a len cap zs) (h0w : Below w0.heap.size w0 w) (M : Nat → Prop) (hM : ∀ k, M k → w0.heap.size ≤ k)
    (hBs2 : Bs < w.heap.size) (hBM : ¬ M Bs) (hc : w.cell? ⟨Bs, 0, none⟩ = some (.slice a len cap)) :
    Iter Try.prog 35 #[.pointer (some ⟨Bs, 0, none⟩)] (fun x : Nat × Int => #[.int .i64 (x.1 : Int), .int .i64 x.2]) (down zs len) M w := by
  intro l J Jx W hW hl hJ hJx hY h0
  have h1 := hz.len
  have h5 := fun k (hk : k < len) => hz.at hk
  obtain ⟨h2, h3⟩ := hz.bounds
  refine callsIn_of_wp Try.func35 rfl trivial ?_ rfl
  simp only [Try.ntmps35, List.size_toArray, List.length_cons, List.length_nil, Nat.reduceAdd, Nat.reduceSub, Array.replicate_succ, Array.replicate_zero, List.push_toArray, List.append_toArray, List.nil_append, List.cons_append]
  have hcW : W.cell? ⟨Bs, 0, none⟩ = some (.slice a len cap) := (hW.cell (p := ⟨Bs, 0, none⟩) hBs2).trans hc
  have H1 := Lib.hid h1; clear h1
  have H5 := Lib.hid h5; clear h5
  have HW := Lib.hid hW; clear hW
  have H0W := Lib.hid h0w; clear h0w
  gi_wp2
  gi_loopw [3] (fun i wr => ∃ k : Nat, k ≤ len ∧ i = .int .i64 ((k : Int) - 1) ∧ DownAt zs len k J wr ∧ Kept (fun k => M k ∨ (w.heap.size ≤ k ∧ k < W.heap.size)) W wr)
    (fun i _ => (intOf i + 1).toNat)
  case atStart => exact ⟨len, Nat.le_refl _, rfl, ⟨[], rfl, h0⟩, Kept.refl _ _⟩
  case round =>
    obtain ⟨k, hk, rfl, ⟨pre, hpre, hJs⟩, hkp⟩ := hrel
    have hcr : wr.cell? ⟨Bs, 0, none⟩ = some (.slice a len cap) := (hkp.cell (p := ⟨Bs, 0, none⟩) (by have := HW.out.size; simp; omega) (by intro h; rcases h with h | h; exact hBM h; have := h.1; simp at this; omega)).trans hcW
    have HK := Lib.hid hkp; clear hkp
    cases k with
    | zero =>
      have HP := Lib.hid hpre; clear hpre
      gi_wp2
      go_end0
      refine ⟨⟨_, rfl⟩, .inl ?_⟩
      have := HP.out
      rw [down_zero, List.append_nil] at this
      rw [this]; exact hJs
    | succ k =>
      rw [down_succ] at hpre
      obtain ⟨b, off, rfl, hb, hcell⟩ := H5.out k (by omega)
      have hcell' : wr.cell? ⟨b, off + k, none⟩ = some (.int .i64 (zs[k]?.getD 0)) := by
        have hb2 : b < w.heap.size := Nat.lt_of_lt_of_le hb H0W.out.size
        rw [← hcell]
        refine (HK.out.cell (p := ⟨b, off + k, none⟩) (by have := HW.out.size; simp; omega) (by intro h; rcases h with h | h; have := hM _ h; simp at this; omega; have := h.1; simp at this; omega)).trans ?_
        exact (HW.out.cell (p := ⟨b, off + k, none⟩) hb2).trans (H0W.out.cell (p := ⟨b, off + k, none⟩) hb)
      clear hcell
      obtain ⟨fn, tmps, assign, body, hy, hR⟩ := hY pre (k, zs[k]?.getD 0) (down zs k) wr hpre HK.out.size hJs
      dsimp only at hy
      have HP := Lib.hid hpre; clear hpre
      have HR := Lib.hid hR; clear hR
      have e1 : (((k + 1 : Nat) : Int) - 1) = (k : Int) := by omega
      rw [e1]
      clear e1
      gi_wp2
      refine ⟨rfl, HR.out.mono ?_⟩
      rintro e W3 (⟨rfl, hJ3, hk3⟩ | ⟨rfl, hJx3, _⟩)
      · gi_wp2
        go_roundw
        case rel => exact ⟨k, by omega, rfl, ⟨pre ++ [(k, zs[k]?.getD 0)], by rw [HP.out]; simp, hJ3⟩, HK.out.trans hk3⟩
        case measure => simp [intOf]
      · gi_wp2
        refine bodyPost_ret (results_none rfl _ _ _) rfl ?_
        exact ⟨⟨_, rfl⟩, .inr ⟨_, ⟨down zs k, by rw [HP.out]; simp⟩, hJx3⟩⟩

set_option maxHeartbeats 1000000 in
theorem back_mk (a : Option Addr) (len cap : Nat) (w : World) :
    CallsIn Fence.wide 0 Try.prog 34 #[.slice a len cap] w fun e w' => e = .returned (.func (.func 35) #[] #[.pointer (some ⟨w.heap.size, 0, none⟩)]) ∧ w' = w.alloc (.cells #[.slice a len cap] 22) := by
  refine callsIn_of_wp Try.func34 rfl trivial ?_ rfl
  simp only [Try.ntmps34, List.size_toArray, List.length_cons, List.length_nil, Nat.reduceAdd, Nat.reduceSub, Array.replicate_succ, Array.replicate_zero, List.push_toArray, List.append_toArray, List.nil_append, List.cons_append]
  gi_wp2
  go_ret
  exact ⟨rfl, rfl⟩

/-- the members alone -/
def snds (l : List (Nat × Int)) : List Int := l.map Prod.snd
theorem snds_snoc (l : List (Nat × Int)) (x : Nat × Int) : snds (l ++ [x]) = snds l ++ [x.2] := by simp [snds]
theorem snds_split (l : List (Nat × Int)) (x : Nat × Int) (r : List (Nat × Int)) : snds (l ++ x :: r) = snds l ++ x.2 :: snds r := by simp [snds]
theorem snds_prefix {a b : List (Nat × Int)} (h : a <+: b) : snds a <+: snds b := by obtain ⟨t, rfl⟩ := h; exact ⟨snds t, by simp [snds]⟩
theorem down_snd (zs : List Int) : snds (down zs zs.length) = zs.reverse := by
  simp only [snds, down, List.map_reverse, List.map_map]
  congr 1
  apply List.ext_getElem
  · simp
  · intro i h1 h2
    simp [h2]

set_option maxRecDepth 100000 in
set_option maxHeartbeats 2000000 in
theorem known_iter (zs : List Int) (a : Option Addr) (len cap Bd : Nat) (w0 w : World) (hz : Ints w0 a len cap zs) (h0w : Below w0.heap.size w0 w) (M : Nat → Prop) (hM : ∀ k, M k → w0.heap.size ≤ k) (hM2 : ∀ k, M k → k < w.heap.size)
    (hBd2 : Bd < w.heap.size) (hBM : ¬ M Bd) (hc : w.cell? ⟨Bd, 0, none⟩ = some (.slice a len cap)) :
    Iter Try.prog 33 #[.pointer (some ⟨Bd, 0, none⟩)] (fun x : Int => #[.int .i64 x]) zs.reverse M w := by
  intro l J Jx W hW hl hJ hJx hY h0
  refine callsIn_of_wp_marks Try.func33 rfl trivial ?_ rfl
  simp only [Try.ntmps33, List.size_toArray, List.length_cons, List.length_nil, Nat.reduceAdd, Nat.reduceSub, Array.replicate_succ, Array.replicate_zero, List.push_toArray, List.append_toArray, List.nil_append, List.cons_append]
  have hcW : W.cell? ⟨Bd, 0, none⟩ = some (.slice a len cap) := (hW.cell (p := ⟨Bd, 0, none⟩) hBd2).trans hc
  have hBdW : Bd < W.heap.size := Nat.lt_of_lt_of_le hBd2 hW.size
  have HW := Lib.hid hW; clear hW
  have H0W := Lib.hid h0w; clear h0w
  have HJ := Lib.hid hJ; clear hJ
  have HJX := Lib.hid hJx; clear hJx
  have HM := Lib.hid hM; clear hM
  have HM2 := Lib.hid hM2; clear hM2
  have HBM := Lib.hid hBM; clear hBM
  gi_wp2
  refine ⟨trivial, rfl, (back_mk _ _ _ _).mono ?_⟩
  rintro e w' ⟨rfl, rfl⟩
  gi_wp2
  have hlen : zs.length = len := hz.len
  have HLEN := Lib.hid hlen; clear hlen
  have HCW := Lib.hid hcW; clear hcW
  have HC := Lib.hid hc; clear hc
  obtain ⟨W2, hW2⟩ : ∃ W2, (W.alloc (Obj.cells #[Value.func (Fn.yield l) #[] #[]] 70)).alloc (Obj.cells #[Value.slice a len cap] 22) = W2 := ⟨_, rfl⟩
  have hs2 : W2.heap.size = W.heap.size + 2 := by rw [← hW2]; simp
  have hb2 : Below W.heap.size W W2 := by rw [← hW2]; exact ((Below.refl _ W).alloc (Nat.le_refl _) _).alloc (by simp) _
  have hcB : W2.cell? ⟨W.heap.size + 1, 0, none⟩ = some (.slice a len cap) := by rw [← hW2]; simp
  have hcY : W2.cell? ⟨W.heap.size, 0, none⟩ = some (.func (.yield l) #[] #[]) := by rw [← hW2]; simp
  rw [hW2]
  have hww := HW.out.size
  have hw0 := H0W.out.size
  refine range_over (α := Nat × Int) (gf := 35) (lb := #[.pointer (some ⟨W.heap.size + 1, 0, none⟩)]) rfl (enters_of Try.func35 (by kernel_rfl) rfl)
    (back_iter zs a len cap (W.heap.size + 1) w0 W2 hz ((H0W.out.trans (HW.out.mono hw0)).trans (hb2.mono (by omega))) (fun k => M k ∨ (w.heap.size ≤ k ∧ k < W.heap.size))
      (fun k h => by rcases h with h | h; exact HM.out _ h; omega) (by omega) (fun h => by rcases h with h | h; have := HM2.out _ h; omega; omega) hcB)
    (fun k h => by rcases h with h | h; have := HM2.out _ h; omega; omega) (fun _ => rfl)
    (fun pre wr => J (snds pre) wr ∧ wr.cell? ⟨W.heap.size, 0, none⟩ = some (.func (.yield l) #[] #[])) 
    (fun c pre wr => c = .ret ∧ Jx (snds pre) wr)
    (fun pre A B h hb => ⟨HJ.out _ _ _ h.1 (hb.mono (by omega)), (hb.cell (p := ⟨W.heap.size, 0, none⟩) (by simp; omega)).trans h.2⟩)
    (fun c pre A B h hb => ⟨h.1, HJX.out _ _ _ h.2 (hb.mono (by omega))⟩)
    ⟨HJ.out _ _ _ h0 hb2, hcY⟩
    (fun x => { tmps := #[Value.func (Fn.yield l) #[] #[], Value.pointer (some { block := Bd, off := 0 }),
        Value.pointer (some { block := W.heap.size, off := 0 }), undef, .int .i64 x.2,
        Value.pointer (some { block := Bd, off := 0 }), Value.slice a len cap,
        Value.func (Fn.func 35) #[] #[Value.pointer (some { block := W.heap.size + 1, off := 0 })], .int .i64 (x.1 : Int), .int .i64 x.2, undef,
        undef, undef, undef], defers := [] }) ?assign ?body ?done ?stop
  case assign =>
    intro l2 x W3 K hK
    gi_wp2
    exact hK
  case body =>
    rintro l2 pre x rest W3 hxs hsz3 ⟨hJ3, hc3⟩
    have hxs2 : zs.reverse = snds pre ++ x.2 :: snds rest := by
      rw [← down_snd, HLEN.out, hxs, snds_split]
    obtain ⟨fn, tmps, assign, body, hy, hR⟩ := hY _ _ _ W3 hxs2 (by omega) hJ3
    have HX := Lib.hid hxs; clear hxs
    have HX2 := Lib.hid hxs2; clear hxs2
    have HR := Lib.hid hR; clear hR
    clear hcB hcY hW2
    gi_wp2
    refine ⟨rfl, HR.out.mono ?_⟩
    rintro e W4 (⟨rfl, hJ4, hk4⟩ | ⟨rfl, hJx4, hk4⟩)
    · gi_wp2
      exact ⟨hk4, by rw [snds_snoc]; exact hJ4, (hk4.cell (p := ⟨W.heap.size, 0, none⟩) (by simp; omega) (by intro h; rcases h with h | h; have := HM2.out _ h; simp at this; omega; have := h.2; simp at this)).trans hc3⟩
    · gi_wp2
      exact ⟨hk4, rfl, by rw [snds_snoc]; exact hJx4⟩
  case done =>
    rintro D W3 hD ⟨hJ3, _⟩ hd3
    refine ⟨by simp, .inl ⟨_, _, rfl, run_takeDeferred hd3, _, results_none rfl _ _ _, ⟨_, rfl⟩, .inl ?_⟩⟩
    rw [← down_snd, HLEN.out]
    exact HJ.out _ _ _ hJ3 (below_putObj (Below.refl _ _) (by omega) _)
  case stop =>
    rintro D c pre W3 hD hpre ⟨rfl, hJ3⟩ hd3
    gi_wp2
    refine ⟨by simp, .inl ⟨_, _, rfl, run_takeDeferred hd3, _, results_none rfl _ _ _, ⟨_, rfl⟩, .inr ⟨snds pre, ?_, ?_⟩⟩⟩
    · rw [← down_snd, HLEN.out]; exact snds_prefix hpre
    · exact HJX.out _ _ _ hJ3 (below_putObj (Below.refl _ _) (by omega) _)

/-- is a number among some? (a name of its own, so that the walk does not look into it) -/
def memB (zs : List Int) (id : Int) : Bool := zs.contains id
theorem memB_iff {zs : List Int} {id : Int} : memB zs id = true ↔ id ∈ zs := by simp [memB]
theorem memB_false {zs : List Int} {id : Int} (h : ¬ id ∈ zs) : memB zs id = false := by simp [memB, h]

/-- a call that hands back v and turns nothing that lay -/
def RB (w : World) (v : Value) (e : Ending) (w' : World) : Prop := e = .returned v ∧ Below w.heap.size w w'

/-- the box of the result holds b, nothing below has turned -/
def KI (w : World) (b : Bool) (id : Int) (wr : World) : Prop :=
  wr.cell? ⟨w.heap.size + 1 + 1, 0, none⟩ = some (.bool b) ∧ wr.frozen? ⟨w.heap.size + 1 + 1, 0, none⟩ = false ∧ wr.cell? ⟨w.heap.size + 1, 0, none⟩ = some (.int .i64 id) ∧ Below w.heap.size w wr

theorem KI.later {w : World} {b : Bool} {id : Int} {A B : World} {n : Nat} (h : KI w b id A) (hn : w.heap.size + 3 ≤ n) (hb : Below n A B) : KI w b id B :=
  ⟨(hb.cell (p := ⟨w.heap.size + 1 + 1, 0, none⟩) (by simp; omega)).trans h.1, (hb.frozen (p := ⟨w.heap.size + 1 + 1, 0, none⟩) (by simp; omega)).trans h.2.1, (hb.cell (p := ⟨w.heap.size + 1, 0, none⟩) (by simp; omega)).trans h.2.2.1, h.2.2.2.trans (hb.mono (by omega))⟩

theorem KI.set {w : World} {b : Bool} {id : Int} {A : World} (h : KI w b id A) (b' : Bool) : KI w b' id (A.setCell ⟨w.heap.size + 1 + 1, 0, none⟩ (.bool b')) :=
  ⟨World.cell?_setCell_same' _ _ _ (by rw [h.1]; rfl), by rw [World.frozen?_setCell]; exact h.2.1, by rw [World.cell?_setCell_other]; exact h.2.2.1; simp, h.2.2.2.setCell (by simp; omega) _⟩

theorem KI.new (w : World) (o : Obj) (t1 t2 : TypeId) (id : Int) (o4 : Obj) : KI w false id ((((w.alloc o).alloc (.cells #[.int .i64 id] t1)).alloc (.cells #[.bool false] t2)).alloc o4) :=
  ⟨by go_simp, by go_simp, by go_simp, ((((Below.refl _ w).alloc (Nat.le_refl _) _).alloc (by simp) _).alloc (by simp; omega) _).alloc (by simp; omega) _⟩

set_option maxHeartbeats 1000000 in
theorem known_mk (a : Option Addr) (len cap : Nat) (w : World) :
    CallsIn Fence.wide 0 Try.prog 27 #[.agg #[.slice a len cap]] w fun e w' => e = .returned (.func (.func 33) #[] #[.pointer (some ⟨w.heap.size, 0, none⟩)]) ∧ w' = w.alloc (.cells #[.slice a len cap] 24) := by
  refine callsIn_of_wp Try.func27 rfl trivial ?_ rfl
  simp only [Try.ntmps27, List.size_toArray, List.length_cons, List.length_nil, Nat.reduceAdd, Nat.reduceSub, Array.replicate_succ, Array.replicate_zero, List.push_toArray, List.append_toArray, List.nil_append, List.cons_append]
  gi_wp2
  go_ret
  exact ⟨rfl, rfl⟩

set_option maxRecDepth 100000 in
set_option maxHeartbeats 2000000 in
theorem knows (zs : List Int) (id : Int) (a : Option Addr) (len cap : Nat) (w : World) (hz : Ints w a len cap zs) :
    Calls Try.prog 13 #[.agg #[.slice a len cap], .int .i64 id] w (RB w (.bool (memB zs id))) := by
  refine (callsIn_wide (n := 0)).1 ?_
  refine callsIn_of_wp_marks Try.func13 rfl trivial ?_ rfl
  simp only [Try.ntmps13, List.size_toArray, List.length_cons, List.length_nil, Nat.reduceAdd, Nat.reduceSub, Array.replicate_succ, Array.replicate_zero, List.push_toArray, List.append_toArray, List.nil_append, List.cons_append]
  gi_wp2
  refine ⟨trivial, rfl, (known_mk _ _ _ _).mono ?_⟩
  rintro e w' ⟨rfl, rfl⟩
  gi_wp2
  have hk := KI.new w (Obj.cells #[Value.slice a len cap] 24) 2 4 id (Obj.cells #[Value.slice a len cap] 24)
  have hc4 : ((((w.alloc (Obj.cells #[Value.slice a len cap] 24)).alloc (Obj.cells #[Value.int IntKind.i64 id] 2)).alloc (Obj.cells #[Value.bool false] 4)).alloc (Obj.cells #[Value.slice a len cap] 24)).cell? ⟨w.heap.size + 1 + 1 + 1, 0, none⟩ = some (.slice a len cap) := by go_simp
  obtain ⟨W2, hW2⟩ : ∃ W2, (((w.alloc (Obj.cells #[Value.slice a len cap] 24)).alloc (Obj.cells #[Value.int IntKind.i64 id] 2)).alloc (Obj.cells #[Value.bool false] 4)).alloc (Obj.cells #[Value.slice a len cap] 24) = W2 := ⟨_, rfl⟩
  have hs2 : W2.heap.size = w.heap.size + 4 := by rw [← hW2]; simp
  rw [hW2] at hk hc4 ⊢
  clear hW2
  refine range_over (α := Int) (gf := 33) (lb := #[.pointer (some ⟨w.heap.size + 1 + 1 + 1, 0, none⟩)]) rfl (enters_of Try.func33 (by kernel_rfl) rfl)
    (known_iter zs a len cap (w.heap.size + 1 + 1 + 1) w W2 hz hk.2.2.2 (fun k => k = w.heap.size + 1 + 1)
      (fun k h => by omega) (fun k h => by omega) (by omega) (by omega) hc4)
    (fun k h => by omega) (fun _ => rfl)
    (fun pre wr => KI w false id wr ∧ ¬ id ∈ pre)
    (fun c pre wr => c = .ret ∧ KI w true id wr ∧ id ∈ pre)
    (fun pre A B h hb => ⟨h.1.later (by omega) hb, h.2⟩)
    (fun c pre A B h hb => ⟨h.1, h.2.1.later (by omega) hb, h.2.2⟩)
    ⟨hk, by simp⟩
    (fun x => { tmps := #[Value.agg #[Value.slice a len cap], Value.int IntKind.i64 id,
        Value.pointer (some { block := w.heap.size, off := 0 }),
        Value.pointer (some { block := w.heap.size + 1, off := 0 }),
        Value.pointer (some { block := w.heap.size + 1 + 1, off := 0 }), .int .i64 x, Value.agg #[Value.slice a len cap],
        Value.func (Fn.func 33) #[] #[Value.pointer (some { block := w.heap.size + 1 + 1 + 1, off := 0 })], .int .i64 x,
        undef, undef, undef], defers := [] }) ?assign ?body ?done ?stop
  case assign =>
    intro l2 x W3 K hK
    gi_wp2
    exact hK
  case body =>
    rintro l2 pre x rest W3 hxs hsz3 ⟨hk3, hn3⟩
    have HK := Lib.hid hk3
    obtain ⟨h1, h2, h3, _⟩ := hk3
    have HN := Lib.hid hn3; clear hn3
    have HX := Lib.hid hxs; clear hxs
    by_cases he : x = id
    · have hb1 : (x == id) = true := by simp [he]
      have HE := Lib.hid he; clear he
      gi_wp2
      exact ⟨(Kept.refl (fun k => k = w.heap.size + 1 + 1) W3).setCell (p := ⟨w.heap.size + 1 + 1, 0, none⟩) rfl _, rfl, HK.out.set true, by simp [HE.out]⟩
    · have hb1 : (x == id) = false := by simp [he]
      have HE := Lib.hid he; clear he
      gi_wp2
      exact ⟨Kept.refl _ _, HK.out, by simp [HN.out]; exact fun h => HE.out h.symm⟩
  case done =>
    rintro D W3 hD ⟨hk3, hn3⟩ hd3
    have HK := Lib.hid hk3
    obtain ⟨h1, h2, h3, _⟩ := hk3
    have HN := Lib.hid hn3; clear hn3
    have HD := Lib.hid hd3; clear hd3
    gi_wp2
    have hk4 := HK.out.set false
    have hd4 : (W3.setCell ⟨w.heap.size + 1 + 1, 0, none⟩ (.bool false)).heap[D]? = some (.deferred (some [])) := (Below.heap_setCell _ _ _ _ (by simp; omega)).trans HD.out
    have hk5 := hk4.later (n := W2.heap.size) (by omega) (below_putObj (Below.refl _ _) hD (.deferred none))
    refine ⟨by simp, .inl ⟨_, _, rfl, run_takeDeferred hd4, .bool false, ?_, ?_⟩⟩
    · have hc5 := hk5.1
      simp [results, Try.f13, go_sem, hc5]
    · rw [memB_false (by simpa using HN.out)]
      exact ⟨rfl, hk5.2.2.2⟩
  case stop =>
    rintro D c pre W3 hD hpre ⟨rfl, hk3, hn3⟩ hd3
    gi_wp2
    have hk5 := hk3.later (n := W2.heap.size) (by omega) (below_putObj (Below.refl _ _) hD (.deferred none))
    refine ⟨by simp, .inl ⟨_, _, rfl, run_takeDeferred hd3, .bool true, ?_, ?_⟩⟩
    · have hc5 := hk5.1
      simp [results, Try.f13, go_sem, hc5]
    · rw [memB_iff.2 (by obtain ⟨t, ht⟩ := hpre; have : id ∈ zs.reverse := by rw [← ht]; simp [hn3]
                         simpa using this)]
      exact ⟨rfl, hk5.2.2.2⟩
end Go.Proofs.Ytoninfccmonaiaa
