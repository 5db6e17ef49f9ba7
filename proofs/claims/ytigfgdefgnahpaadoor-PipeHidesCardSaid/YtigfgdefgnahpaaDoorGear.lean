/-
  The assertions to the quick ways' interfaces, at the chain's values. Not a statement of the seat.
-/
import Derived.Test.YtigfgdefgnahpaaDoorQuick
import Derived.Stop.Asserts
namespace Go.Proofs.YtigfgdefgnahpaaDoor
open Go.RowKit

theorem as132_54 (v : Value) (xT : TypeId) (w : World) : (Instr.typeAssert (.iface 54 v) xT 132 true).run Tryd.prog w = .ok (.tuple #[.nilIface, .bool false]) w := run_typeAssert_lacksB Tryd.underlying132 (by kernel_rfl) (by kernel_rfl) v xT w
theorem as132_104 (v : Value) (xT : TypeId) (w : World) : (Instr.typeAssert (.iface 104 v) xT 132 true).run Tryd.prog w = .ok (.tuple #[.iface 104 v, .bool true]) w := run_typeAssert_hasB Tryd.underlying132 (by kernel_rfl) v xT w
theorem as132_130 (v : Value) (xT : TypeId) (w : World) : (Instr.typeAssert (.iface 130 v) xT 132 true).run Tryd.prog w = .ok (.tuple #[.nilIface, .bool false]) w := run_typeAssert_lacksB Tryd.underlying132 (by kernel_rfl) (by kernel_rfl) v xT w
theorem as132_135 (v : Value) (xT : TypeId) (w : World) : (Instr.typeAssert (.iface 135 v) xT 132 true).run Tryd.prog w = .ok (.tuple #[.iface 135 v, .bool true]) w := run_typeAssert_hasB Tryd.underlying132 (by kernel_rfl) v xT w
theorem as132_58 (v : Value) (xT : TypeId) (w : World) : (Instr.typeAssert (.iface 58 v) xT 132 true).run Tryd.prog w = .ok (.tuple #[.nilIface, .bool false]) w := run_typeAssert_lacksB Tryd.underlying132 (by kernel_rfl) (by kernel_rfl) v xT w
theorem as132_137 (v : Value) (xT : TypeId) (w : World) : (Instr.typeAssert (.iface 137 v) xT 132 true).run Tryd.prog w = .ok (.tuple #[.nilIface, .bool false]) w := run_typeAssert_lacksB Tryd.underlying132 (by kernel_rfl) (by kernel_rfl) v xT w
theorem as132_139 (v : Value) (xT : TypeId) (w : World) : (Instr.typeAssert (.iface 139 v) xT 132 true).run Tryd.prog w = .ok (.tuple #[.nilIface, .bool false]) w := run_typeAssert_lacksB Tryd.underlying132 (by kernel_rfl) (by kernel_rfl) v xT w
theorem as86_54 (v : Value) (xT : TypeId) (w : World) : (Instr.typeAssert (.iface 54 v) xT 86 true).run Tryd.prog w = .ok (.tuple #[.nilIface, .bool false]) w := run_typeAssert_lacksB Tryd.underlying86 (by kernel_rfl) (by kernel_rfl) v xT w
theorem as86_104 (v : Value) (xT : TypeId) (w : World) : (Instr.typeAssert (.iface 104 v) xT 86 true).run Tryd.prog w = .ok (.tuple #[.iface 104 v, .bool true]) w := run_typeAssert_hasB Tryd.underlying86 (by kernel_rfl) v xT w
theorem as86_130 (v : Value) (xT : TypeId) (w : World) : (Instr.typeAssert (.iface 130 v) xT 86 true).run Tryd.prog w = .ok (.tuple #[.nilIface, .bool false]) w := run_typeAssert_lacksB Tryd.underlying86 (by kernel_rfl) (by kernel_rfl) v xT w
theorem as86_135 (v : Value) (xT : TypeId) (w : World) : (Instr.typeAssert (.iface 135 v) xT 86 true).run Tryd.prog w = .ok (.tuple #[.iface 135 v, .bool true]) w := run_typeAssert_hasB Tryd.underlying86 (by kernel_rfl) v xT w
theorem as86_58 (v : Value) (xT : TypeId) (w : World) : (Instr.typeAssert (.iface 58 v) xT 86 true).run Tryd.prog w = .ok (.tuple #[.nilIface, .bool false]) w := run_typeAssert_lacksB Tryd.underlying86 (by kernel_rfl) (by kernel_rfl) v xT w
theorem as86_137 (v : Value) (xT : TypeId) (w : World) : (Instr.typeAssert (.iface 137 v) xT 86 true).run Tryd.prog w = .ok (.tuple #[.nilIface, .bool false]) w := run_typeAssert_lacksB Tryd.underlying86 (by kernel_rfl) (by kernel_rfl) v xT w
theorem as86_139 (v : Value) (xT : TypeId) (w : World) : (Instr.typeAssert (.iface 139 v) xT 86 true).run Tryd.prog w = .ok (.tuple #[.nilIface, .bool false]) w := run_typeAssert_lacksB Tryd.underlying86 (by kernel_rfl) (by kernel_rfl) v xT w
theorem as116_55 (v : Value) (xT : TypeId) (w : World) : (Instr.typeAssert (.iface 55 v) xT 116 true).run Tryd.prog w = .ok (.tuple #[.nilIface, .bool false]) w := run_typeAssert_lacksB Tryd.underlying116 (by kernel_rfl) (by kernel_rfl) v xT w
theorem as116_108 (v : Value) (xT : TypeId) (w : World) : (Instr.typeAssert (.iface 108 v) xT 116 true).run Tryd.prog w = .ok (.tuple #[.iface 108 v, .bool true]) w := run_typeAssert_hasB Tryd.underlying116 (by kernel_rfl) v xT w
theorem as116_114 (v : Value) (xT : TypeId) (w : World) : (Instr.typeAssert (.iface 114 v) xT 116 true).run Tryd.prog w = .ok (.tuple #[.nilIface, .bool false]) w := run_typeAssert_lacksB Tryd.underlying116 (by kernel_rfl) (by kernel_rfl) v xT w
theorem as116_119 (v : Value) (xT : TypeId) (w : World) : (Instr.typeAssert (.iface 119 v) xT 116 true).run Tryd.prog w = .ok (.tuple #[.iface 119 v, .bool true]) w := run_typeAssert_hasB Tryd.underlying116 (by kernel_rfl) v xT w
theorem as116_110 (v : Value) (xT : TypeId) (w : World) : (Instr.typeAssert (.iface 110 v) xT 116 true).run Tryd.prog w = .ok (.tuple #[.nilIface, .bool false]) w := run_typeAssert_lacksB Tryd.underlying116 (by kernel_rfl) (by kernel_rfl) v xT w
theorem as89_55 (v : Value) (xT : TypeId) (w : World) : (Instr.typeAssert (.iface 55 v) xT 89 true).run Tryd.prog w = .ok (.tuple #[.nilIface, .bool false]) w := run_typeAssert_lacksB Tryd.underlying89 (by kernel_rfl) (by kernel_rfl) v xT w
theorem as89_108 (v : Value) (xT : TypeId) (w : World) : (Instr.typeAssert (.iface 108 v) xT 89 true).run Tryd.prog w = .ok (.tuple #[.iface 108 v, .bool true]) w := run_typeAssert_hasB Tryd.underlying89 (by kernel_rfl) v xT w
theorem as89_114 (v : Value) (xT : TypeId) (w : World) : (Instr.typeAssert (.iface 114 v) xT 89 true).run Tryd.prog w = .ok (.tuple #[.nilIface, .bool false]) w := run_typeAssert_lacksB Tryd.underlying89 (by kernel_rfl) (by kernel_rfl) v xT w
theorem as89_119 (v : Value) (xT : TypeId) (w : World) : (Instr.typeAssert (.iface 119 v) xT 89 true).run Tryd.prog w = .ok (.tuple #[.iface 119 v, .bool true]) w := run_typeAssert_hasB Tryd.underlying89 (by kernel_rfl) v xT w
theorem as89_110 (v : Value) (xT : TypeId) (w : World) : (Instr.typeAssert (.iface 110 v) xT 89 true).run Tryd.prog w = .ok (.tuple #[.nilIface, .bool false]) w := run_typeAssert_lacksB Tryd.underlying89 (by kernel_rfl) (by kernel_rfl) v xT w

theorem chainAs132 {w : World} {r : Own} {sh : Sh} : ∀ {l : List Wr} {v : Value} {s : Sc}, Chain w r sh v l s → ∀ xT w', (Instr.typeAssert v xT 132 true).run Tryd.prog w' = .ok (.tuple #[if fastB sh.wr l then v else .nilIface, .bool (fastB sh.wr l)]) w'
  | [], v, s, h, xT, w' => by
    obtain ⟨fs, rfl, _⟩ := h
    cases hw : sh.wr
    · exact as132_54 _ _ _
    · exact as132_104 _ _ _
  | x :: l, v, s, h, xT, w' => by
    obtain ⟨below, _, h2⟩ := h
    unfold WrapAt at h2
    by_cases e2 : x.op = 2
    · rw [if_pos e2] at h2
      obtain ⟨cb, rfl, _⟩ := h2
      have : fastB sh.wr (x :: l) = fastB sh.wr l := by unfold fastB; rw [List.all_cons, e2]; rfl
      rw [this]
      cases fastB sh.wr l
      · exact as132_130 _ _ _
      · exact as132_135 _ _ _
    · have : fastB sh.wr (x :: l) = false := by unfold fastB; rw [List.all_cons]; simp [e2]
      rw [this]
      rw [if_neg e2] at h2
      by_cases e3 : x.op = 3
      · rw [if_pos e3] at h2
        obtain ⟨lb, rfl, _⟩ := h2
        exact as132_58 _ _ _
      · rw [if_neg e3] at h2
        by_cases e4 : x.op = 4
        · rw [if_pos e4] at h2
          obtain ⟨tb, bk, rfl, _⟩ := h2
          exact as132_137 _ _ _
        · rw [if_neg e4] at h2
          subst h2
          exact as132_139 _ _ _

theorem chainAs86 {w : World} {r : Own} {sh : Sh} : ∀ {l : List Wr} {v : Value} {s : Sc}, Chain w r sh v l s → ∀ xT w', (Instr.typeAssert v xT 86 true).run Tryd.prog w' = .ok (.tuple #[if fastB sh.wr l then v else .nilIface, .bool (fastB sh.wr l)]) w'
  | [], v, s, h, xT, w' => by
    obtain ⟨fs, rfl, _⟩ := h
    cases hw : sh.wr
    · exact as86_54 _ _ _
    · exact as86_104 _ _ _
  | x :: l, v, s, h, xT, w' => by
    obtain ⟨below, _, h2⟩ := h
    unfold WrapAt at h2
    by_cases e2 : x.op = 2
    · rw [if_pos e2] at h2
      obtain ⟨cb, rfl, _⟩ := h2
      have : fastB sh.wr (x :: l) = fastB sh.wr l := by unfold fastB; rw [List.all_cons, e2]; rfl
      rw [this]
      cases fastB sh.wr l
      · exact as86_130 _ _ _
      · exact as86_135 _ _ _
    · have : fastB sh.wr (x :: l) = false := by unfold fastB; rw [List.all_cons]; simp [e2]
      rw [this]
      rw [if_neg e2] at h2
      by_cases e3 : x.op = 3
      · rw [if_pos e3] at h2
        obtain ⟨lb, rfl, _⟩ := h2
        exact as86_58 _ _ _
      · rw [if_neg e3] at h2
        by_cases e4 : x.op = 4
        · rw [if_pos e4] at h2
          obtain ⟨tb, bk, rfl, _⟩ := h2
          exact as86_137 _ _ _
        · rw [if_neg e4] at h2
          subst h2
          exact as86_139 _ _ _

theorem sinkAs116 {w : World} {r : Own} {sk : Sk} {bk : Int} : ∀ {l : List KW} {v : Value} {t : Tank}, SinkAt w r sk bk v l t → ∀ xT w', (Instr.typeAssert v xT 116 true).run Tryd.prog w' = .ok (.tuple #[if fastK sk.rd l then v else .nilIface, .bool (fastK sk.rd l)]) w'
  | [], v, s, h, xT, w' => by
    obtain ⟨fs, rfl, _⟩ := h
    cases hw : sk.rd
    · exact as116_55 _ _ _
    · exact as116_108 _ _ _
  | x :: l, v, s, h, xT, w' => by
    obtain ⟨below, _, h2⟩ := h
    unfold SinkWrap at h2
    by_cases e2 : x.1 = true
    · rw [if_pos e2] at h2
      obtain ⟨cb, rfl, _⟩ := h2
      have : fastK sk.rd (x :: l) = fastK sk.rd l := by unfold fastK; rw [List.all_cons, e2]; rfl
      rw [this]
      cases fastK sk.rd l
      · exact as116_114 _ _ _
      · exact as116_119 _ _ _
    · have : fastK sk.rd (x :: l) = false := by unfold fastK; rw [List.all_cons]; simp [e2]
      rw [this]
      rw [if_neg e2] at h2
      subst h2
      exact as116_110 _ _ _

theorem sinkAs89 {w : World} {r : Own} {sk : Sk} {bk : Int} : ∀ {l : List KW} {v : Value} {t : Tank}, SinkAt w r sk bk v l t → ∀ xT w', (Instr.typeAssert v xT 89 true).run Tryd.prog w' = .ok (.tuple #[if fastK sk.rd l then v else .nilIface, .bool (fastK sk.rd l)]) w'
  | [], v, s, h, xT, w' => by
    obtain ⟨fs, rfl, _⟩ := h
    cases hw : sk.rd
    · exact as89_55 _ _ _
    · exact as89_108 _ _ _
  | x :: l, v, s, h, xT, w' => by
    obtain ⟨below, _, h2⟩ := h
    unfold SinkWrap at h2
    by_cases e2 : x.1 = true
    · rw [if_pos e2] at h2
      obtain ⟨cb, rfl, _⟩ := h2
      have : fastK sk.rd (x :: l) = fastK sk.rd l := by unfold fastK; rw [List.all_cons, e2]; rfl
      rw [this]
      cases fastK sk.rd l
      · exact as89_114 _ _ _
      · exact as89_119 _ _ _
    · have : fastK sk.rd (x :: l) = false := by unfold fastK; rw [List.all_cons]; simp [e2]
      rw [this]
      rw [if_neg e2] at h2
      subst h2
      exact as89_110 _ _ _

/-- the gear, in the block gb (owner 32); its lists of pointers belong to 34 (the sides) and 33 (the counts) -/
def GearAt (w : World) (r : Own) (gb : Nat) (fr to lim : Value) (sp cp : List Value) : Prop :=
  ∃ a1 n1 c1 a2 n2 c2, r gb = some 32 ∧ Blk w gb [fr, to, .slice a1 n1 c1, .slice a2 n2 c2, lim] ∧ RowK w r 34 1 a1 n1 c1 sp ∧ RowK w r 33 1 a2 n2 c2 cp
theorem GearAt.step {K : Nat → Prop} {w w' : World} {r r' : Own} {gb : Nat} {fr to lim : Value} {sp cp : List Value} (h : GearAt w r gb fr to lim sp cp) (g : Step K w r w' r') (h32 : ¬ K 32) (h33 : ¬ K 33) (h34 : ¬ K 34) : GearAt w' r' gb fr to lim sp cp := by
  obtain ⟨a1, n1, c1, a2, n2, c2, h1, h2, h3, h4⟩ := h
  exact ⟨a1, n1, c1, a2, n2, c2, g.oldK h2.lt h1, h2.step g h1 h32, h3.step g h34, h4.step g h33⟩
def ptr (b : Nat) : Value := .pointer (some ⟨b, 0, none⟩)
theorem ptr57Info : ∃ i : TypeInfo, Tryd.prog.info? 111 = some i ∧ i.zero = some (.pointer none) ∧ i.size = 1 ∧ i.bytes = 8 := by
  have h : (Tryd.prog.info? 111).map (fun i => (i.zero, i.size, i.bytes)) = some (some (.pointer none), 1, 8) := by kernel_rfl
  cases hi : Tryd.prog.info? 111 with
  | none => rw [hi] at h; cases h
  | some i =>
    rw [hi] at h
    simp only [Option.map_some, Option.some.injEq, Prod.mk.injEq] at h
    exact ⟨i, rfl, h.1, h.2.1, h.2.2⟩

def CounterW (gb k : Nat) (fr to lim : Value) (sp cp : List Value) (w : World) (r : Own) (w' : World) : Prop :=
  ∃ r', Step (fun j => j = 32 ∨ j = 33 ∨ j = k) w r w' r' ∧ GearAt w' r' gb fr to lim sp (cp ++ [ptr w.heap.size]) ∧ r' w.heap.size = some k ∧ Blk w' w.heap.size [.int .i64 0]

set_option maxRecDepth 100000 in
theorem counterN {gb k : Nat} {fr to lim : Value} {sp cp : List Value} {w : World} {r : Own} (hG : GearAt w r gb fr to lim sp cp) (hbnd : Bnd w r) (hlen : cp.length ≤ 1000) (hk : k ≠ 34) :
    Calls Tryd.prog 48 #[.pointer (some ⟨gb, 0, none⟩)] w (PostV (ptr w.heap.size) (CounterW gb k fr to lim sp cp w r)) := by
  obtain ⟨a1, n1, c1, a2, n2, c2, hgb, hB, hR1, hR2⟩ := hG
  have hn2 : cp.length = n2 := by have := hR2.1.rd.len; omega
  obtain ⟨i0, hy0, hy1, hy2, hy3⟩ := ptr57Info
  have hlt := hB.lt
  obtain ⟨wq, hwq⟩ : ∃ wq, w.alloc (.cells #[.int .i64 0] 2) = wq := ⟨_, rfl⟩
  have hq1 : Step (fun j => j = 32 ∨ j = 33 ∨ j = k) w r wq (r.give w.heap.size k) := by rw [← hwq]; exact ((Step.refl _ hbnd).alloc _).give (Nat.le_refl _) (by simp) (.inr (.inr rfl))
  have hq0 : Step (fun _ => False) w r wq r := by rw [← hwq]; exact (Step.refl _ hbnd).alloc _
  have hqs : wq.heap.size = w.heap.size + 1 := by rw [← hwq]; simp
  have hqb : Blk wq w.heap.size [.int .i64 0] := by rw [← hwq]; exact Blk.new _ _ _
  have c3 := (hB.step hq0 hgb id).cell 3 rfl
  have f3 := (hB.step hq0 hgb id).free 3 (by simp)
  have hbq := hB.step hq0 hgb id
  have hr2 := hR2.step hq0 id
  have hne : ∀ x, blockOf a2 = some x → x ≠ gb := fun x hx e => by subst e; have := hR2.2 x hx; rw [hgb] at this; cases this
  have hne2 : ∀ x, blockOf a2 = some x → x ≠ w.heap.size := fun x hx e => by have := (hR2.1.lt x hx).2; omega
  have u57 := Tryd.underlying57
  have HB := Lib.hid hbq
  have HQS := Lib.hid hqs
  have HR1 := Lib.hid hR1
  have HR2 := Lib.hid hR2
  have HRQ := Lib.hid hr2
  have HQ1 := Lib.hid hq1
  have HQB := Lib.hid hqb
  have HGB := Lib.hid hgb
  have hgq := hq1.old gb hlt
  clear hbq hR1 hR2 hr2 hq1 hq0 hqb hB
  go_enter Tryd.func48, Tryd.ntmps48
  go_wp2_with (at_builtin; go_must (refine wpList_append_row rfl _ _ 57 57 rfl 111 i0 (.pointer none) 1 8 u57 hy0 hy1 hy2 hy3 rfl rfl (HRQ.out.1.alloc _) 1 [ptr w.heap.size] (Src.oneAt u57 (ptr w.heap.size) _ rfl HQS.out.symm) (by unfold maxLen; omega) (by omega) (Nat.zero_le _) ?_; intro a' c' w4 hrow hgr hbk; have HW2 := Lib.hid hrow; have HG2 := Lib.hid hgr; have HK2 := Lib.hid hbk; clear hrow hgr hbk; have BB2 := Lib.hid ((HB.out.alloc _).grown HG2.out (fun e => hne _ e rfl)); have c3' := BB2.out.cell 3 rfl; have f3' := BB2.out.free 3 (by simp)))
  refine bodyPost_ret (v := ptr w.heap.size) (by simp [results, Tryd.f48, go_sem, ptr]) rfl ?_
  refine ⟨rfl, ?_⟩
  have g3 := ((HQ1.out.alloc (.cells #[.pointer (some ⟨w.heap.size, 0, none⟩)] 111)).grown HG2.out (fun x hx _ => ⟨33, HR2.out.2 x hx, .inr (.inl rfl)⟩)).put (p := ⟨gb, 3, none⟩) (.slice a' (n2 + 1) c') (fun _ => ⟨32, HGB.out, .inl rfl⟩)
  have hgb4 : ∀ x, blockOf a' = some x → x ≠ gb := fun x hx e => by
    rcases HK2.out with h | h
    · exact hne x (by rw [← h]; exact hx) e
    · rw [h] at hx; cases hx
      have : gb < wq.heap.size := Nat.lt_of_lt_of_le hlt (by rw [HQS.out]; omega)
      simp at e; omega
  have kB : Blk (w4.setCell ⟨gb, 3, none⟩ (.slice a' (n2 + 1) c')) gb [fr, to, .slice a1 n1 c1, .slice a' (n2 + 1) c', lim] := BB2.out.set (j := 3) _
  have kC : Blk (w4.setCell ⟨gb, 3, none⟩ (.slice a' (n2 + 1) c')) w.heap.size [.int .i64 0] := ((HQB.out.alloc _).grown HG2.out (fun e => hne2 _ e rfl)).other _ (by show gb ≠ w.heap.size; omega)
  have kR : Row 0 (w4.setCell ⟨gb, 3, none⟩ (.slice a' (n2 + 1) c')) 1 a' (n2 + 1) c' (cp ++ [ptr w.heap.size]) := HW2.out.kept (grownBy_setAt _ _ _) (.inl (fun e => hgb4 gb e rfl))
  rcases HK2.out with h | h
  · refine ⟨_, g3, ⟨a1, n1, c1, a', n2 + 1, c', ?_, kB, HR1.out.step g3 (by omega), ⟨kR, fun x hx => ?_⟩⟩, Own.give_same _ _ _, kC⟩
    · rw [hgq]; exact HGB.out
    · rw [h] at hx
      rw [g3.old x (HR2.out.1.lt x hx).2]
      exact HR2.out.2 x hx
  · have hlt4 := (kR.lt _ h).2
    have g4 := g3.give (b := (wq.alloc (.cells #[.pointer (some ⟨w.heap.size, 0, none⟩)] 111)).heap.size) (k := 33) (by simp; omega) hlt4 (.inr (.inl rfl))
    refine ⟨_, g4, ⟨a1, n1, c1, a', n2 + 1, c', ?_, kB, HR1.out.step g4 (by omega), ⟨kR, fun x hx => ?_⟩⟩, ?_, kC⟩
    · rw [g4.old gb hlt]; exact HGB.out
    · rw [h] at hx; cases hx; exact Own.give_same _ _ _
    · rw [Own.give_other _ (by simp; omega)]; exact Own.give_same _ _ _
end Go.Proofs.YtigfgdefgnahpaaDoor
