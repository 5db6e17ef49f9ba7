/-
  Maps whose keys are int64, as lists of keys and values, for the proofs of this seat. Not a statement of the seat.
-/
import Derived.WalkKit
import Derived.Below
import Derived.Carry
import Derived.Maps.OwnSet
import Derived.Test.YtbldidiibkcelaaGreatDoorEMem
import Derived.Test.YtbldidiibkcelaaGreatDoorFits
import Derived.Test.YtbldidiibkcelaaGreatDoorCount
import Derived.Lib.ConvBytes
import Derived.Lib.AtoiErrMem
namespace Go.Proofs.YtbldidiibkcelaaGreatDoor
open Go.RowKit

/-- Block r is a map that holds l (in some order that nobody sees; no key twice). -/
def MapAt (w : World) (r : Nat) (l : List (Int × Value)) : Prop :=
  (∃ es clock, w.heap[r]? = some (.map es clock) ∧ es.toList.map (fun e => (e.key, e.val)) = l.map (fun p => (Value.int .i64 p.1, p.2))) ∧ (l.map (·.1)).Nodup

/-- What a map holds at a key. -/
def lookL (k : Int) : List (Int × Value) → Option Value
  | [] => none
  | p :: r => if k = p.1 then some p.2 else lookL k r
/-- A store. -/
def putL (k : Int) (v : Value) : List (Int × Value) → List (Int × Value)
  | [] => [(k, v)]
  | p :: r => if k = p.1 then (k, v) :: r else p :: putL k v r
/-- delete -/
def delL (k : Int) : List (Int × Value) → List (Int × Value)
  | [] => []
  | p :: r => if k = p.1 then r else p :: delL k r
/-- the place of a key -/
def findL (k : Int) : List (Int × Value) → Nat → Option (Nat × Value)
  | [], _ => none
  | p :: r, i => if k = p.1 then some (i, p.2) else findL k r (i + 1)

theorem lookL_none {k : Int} : ∀ {l : List (Int × Value)}, lookL k l = none ↔ ¬ k ∈ l.map (·.1)
  | [] => by simp [lookL]
  | p :: r => by
    by_cases h : k = p.1
    · simp [lookL, h]
    · simp [lookL, h, lookL_none]
theorem lookL_put (k k' : Int) (v : Value) : ∀ l : List (Int × Value), lookL k' (putL k v l) = if k' = k then some v else lookL k' l
  | [] => by simp only [putL, lookL]
  | p :: r => by
    by_cases h : k = p.1
    · simp only [putL, h, if_true, lookL]
      split <;> simp [*]
    · simp only [putL, if_neg h, lookL, lookL_put k k' v r]
      by_cases e : k' = p.1
      · have hn : ¬ k' = k := fun x => h (x.symm.trans e)
        rw [if_pos e, if_pos e, if_neg hn]
      · rw [if_neg e, if_neg e]
theorem keys_put (k : Int) (v : Value) : ∀ l : List (Int × Value), (putL k v l).map (·.1) = if k ∈ l.map (·.1) then l.map (·.1) else l.map (·.1) ++ [k]
  | [] => by simp [putL]
  | p :: r => by
    by_cases h : k = p.1
    · simp [putL, h]
    · rw [putL, if_neg h]
      simp only [List.map_cons, keys_put k v r, List.mem_cons, h, false_or]
      split <;> simp
theorem nodup_put {k : Int} {v : Value} {l : List (Int × Value)} (h : (l.map (·.1)).Nodup) : ((putL k v l).map (·.1)).Nodup := by
  rw [keys_put]
  split
  · exact h
  · rename_i hn
    rw [List.nodup_append]
    exact ⟨h, by simp, fun a ha b hb => by simp at hb; subst hb; exact fun e => hn (e ▸ ha)⟩
theorem keys_del (k : Int) : ∀ l : List (Int × Value), (delL k l).map (·.1) = (l.map (·.1)).erase k
  | [] => by simp [delL]
  | p :: r => by
    by_cases h : k = p.1
    · simp [delL, h]
    · have h' : ¬ p.1 = k := fun e => h e.symm
      simp [delL, h, h', keys_del k r]
theorem nodup_del {k : Int} {l : List (Int × Value)} (h : (l.map (·.1)).Nodup) : ((delL k l).map (·.1)).Nodup := by
  rw [keys_del]; exact h.erase _
theorem lookL_del {k k' : Int} : ∀ {l : List (Int × Value)}, (l.map (·.1)).Nodup → lookL k' (delL k l) = if k' = k then none else lookL k' l
  | [], _ => by simp [delL, lookL]
  | p :: r, h => by
    simp only [List.map_cons, List.nodup_cons] at h
    by_cases e : k = p.1
    · simp only [delL, e, if_true, lookL]
      by_cases e2 : k' = p.1
      · rw [if_pos e2, e2]; exact lookL_none.2 h.1
      · rw [if_neg e2, if_neg e2]
    · simp only [delL, if_neg e, lookL, lookL_del h.2]
      by_cases e2 : k' = p.1
      · have hn : ¬ k' = k := fun x => e (x.symm.trans e2)
        rw [if_pos e2, if_pos e2, if_neg hn]
      · rw [if_neg e2, if_neg e2]

theorem map_eraseIdx' {α β : Type} (f : α → β) : ∀ (l : List α) (j : Nat), (l.eraseIdx j).map f = (l.map f).eraseIdx j
  | [], _ => by simp
  | a :: r, 0 => by simp
  | a :: r, j + 1 => by simp [map_eraseIdx' f r j]

theorem findL_look (k : Int) : ∀ (l : List (Int × Value)) (i : Nat), (findL k l i).map (·.2) = lookL k l
  | [], _ => rfl
  | p :: r, i => by
    by_cases h : k = p.1
    · simp [findL, lookL, h]
    · simp only [findL, lookL, if_neg h]; exact findL_look k r (i + 1)
theorem findL_ge {k : Int} : ∀ {l : List (Int × Value)} {i j : Nat} {v : Value}, findL k l i = some (j, v) → i ≤ j ∧ j - i < l.length
  | [], _, _, _, h => by simp [findL] at h
  | p :: r, i, j, v, h => by
    by_cases e : k = p.1
    · simp [findL, e] at h; simp; omega
    · simp only [findL, if_neg e] at h; have := findL_ge h; simp; omega
theorem findL_put {k : Int} {v' : Value} : ∀ {l : List (Int × Value)} {i j : Nat} {v : Value}, findL k l i = some (j, v) → putL k v' l = l.modify (j - i) (fun _ => (k, v'))
  | [], _, _, _, h => by simp [findL] at h
  | p :: r, i, j, v, h => by
    by_cases e : k = p.1
    · simp [findL, e] at h
      obtain ⟨rfl, rfl⟩ := h
      simp [putL, e]
    · simp only [findL, if_neg e] at h
      have hg := findL_ge h
      rw [putL, if_neg e, findL_put h, show j - i = (j - (i + 1)) + 1 by omega, List.modify_succ_cons]
theorem findL_none {k : Int} {v' : Value} : ∀ {l : List (Int × Value)} {i : Nat}, findL k l i = none → putL k v' l = l ++ [(k, v')] ∧ delL k l = l
  | [], _, _ => ⟨rfl, rfl⟩
  | p :: r, i, h => by
    by_cases e : k = p.1
    · simp [findL, e] at h
    · simp only [findL, if_neg e] at h
      obtain ⟨h1, h2⟩ := findL_none (v' := v') h
      exact ⟨by rw [putL, if_neg e, h1]; rfl, by rw [delL, if_neg e, h2]⟩
theorem findL_del {k : Int} : ∀ {l : List (Int × Value)} {i j : Nat} {v : Value}, findL k l i = some (j, v) → delL k l = l.eraseIdx (j - i)
  | [], _, _, _, h => by simp [findL] at h
  | p :: r, i, j, v, h => by
    by_cases e : k = p.1
    · simp [findL, e] at h
      obtain ⟨rfl, rfl⟩ := h
      simp [delL, e]
    · simp only [findL, if_neg e] at h
      have hg := findL_ge h
      rw [delL, if_neg e, findL_del h, show j - i = (j - (i + 1)) + 1 by omega, List.eraseIdx_cons_succ]

section
variable {P : Program} {w : World}

theorem findNow_L {k : Int} : ∀ {es : List MapEntry} {l : List (Int × Value)} {i : Nat}, es.map (fun e => (e.key, e.val)) = l.map (fun p => (Value.int .i64 p.1, p.2)) → Instr.findNow (.int .i64) (.int .i64 k) es i = some (findL k l i)
  | [], [], _, _ => rfl
  | [], p :: r, _, h => by simp at h
  | e :: es, [], _, h => by simp at h
  | e :: es, p :: r, i, h => by
    simp only [List.map_cons, List.cons.injEq, Prod.mk.injEq] at h
    obtain ⟨⟨hk, hv⟩, hr⟩ := h
    by_cases e : k = p.1
    · simp [Instr.findNow, Instr.sameNow, hk, hv, findL, e]
    · have e' : (k == p.1) = false := by simpa using e
      simp only [Instr.findNow, Instr.sameNow, hk, findL, if_neg e, e']
      exact findNow_L hr

theorem run_findKey_L {kt : TypeId} (hk : P.underlying kt = some (.int .i64)) {k : Int} {es : List MapEntry} {l : List (Int × Value)} (h : es.map (fun e => (e.key, e.val)) = l.map (fun p => (Value.int .i64 p.1, p.2))) :
    (Instr.findKey kt (.int .i64 k) es).run P w = .ok (findL k l 0) w := by
  simp [Instr.findKey, run_underlying hk, findNow_L (i := 0) h]

theorem run_checkKey_L {kt : TypeId} (hk : P.underlying kt = some (.int .i64)) (b : Bool) (k : Int) : (Instr.checkKey b 10000 kt (.int .i64 k)).run P w = .ok () w := by
  rw [show (10000 : Nat) = 9999 + 1 from rfl, Instr.checkKey]
  simp [run_underlying hk]

theorem run_getObj_map {r : Nat} {es : Array MapEntry} {c : Nat} (h : w.heap[r]? = some (.map es c)) : (getObj r).run P w = .ok (.map es c) w := by simp [getObj, Sem.run, h]
theorem run_setObj_map {r : Nat} {es : Array MapEntry} {c : Nat} (o : Obj) (h : w.heap[r]? = some (.map es c)) : (setObj r o).run P w = .ok () { w with heap := w.heap.setIfInBounds r o } := by simp [setObj, Sem.run, h]

/-- 'v, ok := m[k]' and 'm[k]' -/
theorem MapAt.lookup {r : Nat} {l : List (Int × Value)} (h : MapAt w r l) {t kt et : TypeId} (ht : P.underlying t = some (.map kt et)) (hk : P.underlying kt = some (.int .i64)) {z : Value} (hz : ∀ w, (zeroValue et).run P w = .ok z w) (k : Int) (c : Bool) :
    (Instr.lookup t (.map (some r)) (.int .i64 k) c).run P w = .ok (if c then .tuple #[(lookL k l).getD z, .bool (lookL k l).isSome] else (lookL k l).getD z) w := by
  obtain ⟨⟨es, clock, hh, he⟩, _⟩ := h
  have hf := findL_look k l 0
  simp only [Instr.lookup, Sem.run_bind, run_underlying ht, Result.andThen_ok, run_getObj_map hh, Sem.run_pure, run_checkKey_L hk, run_findKey_L hk he]
  cases hq : findL k l 0 with
  | none =>
    rw [hq] at hf
    simp only [Option.map_none] at hf
    rw [← hf]
    cases c <;> simp [hz]
  | some x =>
    obtain ⟨j, v⟩ := x
    rw [hq] at hf
    simp only [Option.map_some] at hf
    rw [← hf]
    cases c <;> simp

theorem grownBy_set (w : World) (r : Nat) (o : Obj) : w.grownBy { w with heap := w.heap.setIfInBounds r o } (some r) :=
  ⟨rfl, rfl, rfl, by simp, fun k _ hn => by
    have hne : r ≠ k := fun e => hn (by rw [e])
    simp [Array.getElem?_setIfInBounds_ne hne]⟩

/-- 'm[k] = v' -/
theorem MapAt.update {r : Nat} {l : List (Int × Value)} (h : MapAt w r l) {t kt et : TypeId} (ht : P.underlying t = some (.map kt et)) (hk : P.underlying kt = some (.int .i64)) (k : Int) (v : Value) :
    ∃ w', (Instr.mapUpdate t (.map (some r)) (.int .i64 k) v).run P w = .ok () w' ∧ MapAt w' r (putL k v l) ∧ w.grownBy w' (some r) := by
  obtain ⟨⟨es, clock, hh, he⟩, hn⟩ := h
  have hlt : r < w.heap.size := (Array.getElem?_eq_some_iff.1 hh).1
  have hlen : es.size = l.length := by have := congrArg List.length he; simpa using this
  cases hq : findL k l 0 with
  | none =>
    obtain ⟨hp, _⟩ := findL_none (v' := v) hq
    refine ⟨{ w with heap := w.heap.setIfInBounds r (.map (es.push { key := .int .i64 k, val := v, born := clock }) (clock + 1)) }, ?_, ⟨⟨es.push { key := .int .i64 k, val := v, born := clock }, clock + 1, by simp [hlt], by simp [hp, he]⟩, nodup_put hn⟩, grownBy_set _ _ _⟩
    simp [Instr.mapUpdate, run_underlying ht, run_getObj_map hh, run_checkKey_L hk, run_findKey_L hk he, hq, run_setObj_map _ hh]
  | some x =>
    obtain ⟨j, u⟩ := x
    have hp := findL_put (v' := v) hq
    have hj := findL_ge hq
    rw [Nat.sub_zero] at hp hj
    have hkey : ((es[j]?).map (·.key)).getD (.int .i64 k) = .int .i64 k := by
      have h1 := congrArg (fun l => l[j]?) he
      simp only [List.getElem?_map, Array.getElem?_toList] at h1
      cases he2 : es[j]? with
      | none => simp
      | some e0 =>
        rw [he2] at h1
        have hkk : ∀ (l : List (Int × Value)) (i j : Nat) (v : Value), findL k l i = some (j, v) → (l[j - i]?).map (·.1) = some k := by
          intro l
          induction l with
          | nil => intro i j v h; simp [findL] at h
          | cons p r ih =>
            intro i j v h
            by_cases e : k = p.1
            · simp [findL, e] at h; obtain ⟨rfl, _⟩ := h; simp [e]
            · simp only [findL, if_neg e] at h
              have := findL_ge h
              have hi := ih (i + 1) j v h
              rw [show j - i = (j - (i + 1)) + 1 by omega, List.getElem?_cons_succ]
              exact hi
        have h2 := hkk l 0 j u hq
        rw [Nat.sub_zero] at h2
        cases hl : l[j]? with
        | none => rw [hl] at h2; simp at h2
        | some p =>
          rw [hl] at h1 h2
          simp only [Option.map_some, Option.some.injEq, Prod.mk.injEq] at h1 h2
          simp [h1.1, h2]
    refine ⟨{ w with heap := w.heap.setIfInBounds r (.map (es.modify j fun e => { e with key := .int .i64 k, val := v }) clock) }, ?_, ⟨⟨es.modify j fun e => { e with key := .int .i64 k, val := v }, clock, by simp [hlt], ?_⟩, nodup_put hn⟩, grownBy_set _ _ _⟩
    · have hsb : Instr.sameBits 10000 (.int .i64 k) (.int .i64 k) = true := by rw [show (10000 : Nat) = 9999 + 1 from rfl, Instr.sameBits]; simp
      simp [Instr.mapUpdate, run_underlying ht, run_getObj_map hh, run_checkKey_L hk, run_findKey_L hk he, hq, hkey, Instr.keyThatStays, hsb, run_setObj_map _ hh]
    · rw [hp]
      simp only [Array.toList_modify]
      apply List.ext_getElem?
      intro i
      have h1 := congrArg (fun l => l[i]?) he
      simp only [List.getElem?_map, Array.getElem?_toList] at h1
      simp only [List.getElem?_map, List.getElem?_modify, Array.getElem?_toList]
      by_cases hij : j = i
      · subst hij
        simp only [if_true]
        cases he2 : es[j]? with
        | none =>
          rw [he2] at h1
          cases hl : l[j]? with
          | none => simp
          | some p => rw [hl] at h1; simp at h1
        | some e0 =>
          rw [he2] at h1
          cases hl : l[j]? with
          | none => rw [hl] at h1; simp at h1
          | some p => simp
      · simpa [hij] using h1

/-- 'delete(m, k)' -/
theorem MapAt.delete {r : Nat} {l : List (Int × Value)} (h : MapAt w r l) {t kt et ty : TypeId} (ht : P.underlying t = some (.map kt et)) (hk : P.underlying kt = some (.int .i64)) (k : Int) :
    ∃ w', (Builtin.delete_ #[t, kt] ty #[.map (some r), .int .i64 k]).run P w = .ok (.tuple #[]) w' ∧ MapAt w' r (delL k l) ∧ w.grownBy w' (some r) := by
  obtain ⟨⟨es, clock, hh, he⟩, hn⟩ := h
  have hlt : r < w.heap.size := (Array.getElem?_eq_some_iff.1 hh).1
  have hlen : es.size = l.length := by have := congrArg List.length he; simpa using this
  cases hq : findL k l 0 with
  | none =>
    obtain ⟨_, hp⟩ := findL_none (v' := undef) hq
    refine ⟨{ w with heap := w.heap.setIfInBounds r (.map es clock) }, ?_, ⟨⟨es, clock, by simp [hlt], by rw [hp]; exact he⟩, nodup_del hn⟩, grownBy_set _ _ _⟩
    simp [Builtin.delete_, run_underlying ht, run_getObj_map hh, run_checkKey_L hk, run_findKey_L hk he, hq, run_setObj_map _ hh]
  | some x =>
    obtain ⟨j, u⟩ := x
    have hp := findL_del hq
    have hj := findL_ge hq
    rw [Nat.sub_zero] at hp hj
    refine ⟨{ w with heap := w.heap.setIfInBounds r (.map (es.eraseIdxIfInBounds j) clock) }, ?_, ⟨⟨es.eraseIdxIfInBounds j, clock, by simp [hlt], ?_⟩, nodup_del hn⟩, grownBy_set _ _ _⟩
    · simp [Builtin.delete_, run_underlying ht, run_getObj_map hh, run_checkKey_L hk, run_findKey_L hk he, hq, run_setObj_map _ hh]
    · rw [hp]
      have : j < es.size := by omega
      simp only [Array.eraseIdxIfInBounds, this, dif_pos, Array.toList_eraseIdx]
      rw [map_eraseIdx', map_eraseIdx', he]
end

theorem MapAt.new (w : World) : MapAt (w.alloc (.map #[] 0)) w.heap.size [] := ⟨⟨#[], 0, heap_alloc_new w _, rfl⟩, by simp⟩
theorem MapAt.kept {w w' : World} {r : Nat} {l : List (Int × Value)} {row : Option Nat} (h : MapAt w r l) (hg : w.grownBy w' row) (hne : some r ≠ row) : MapAt w' r l := by
  obtain ⟨⟨es, clock, hh, he⟩, hn⟩ := h
  exact ⟨⟨es, clock, (hg.block r (Array.getElem?_eq_some_iff.1 hh).1 hne).trans hh, he⟩, hn⟩
theorem MapAt.lt {w : World} {r : Nat} {l : List (Int × Value)} (h : MapAt w r l) : r < w.heap.size := by
  obtain ⟨⟨es, clock, hh, he⟩, hn⟩ := h
  exact (Array.getElem?_eq_some_iff.1 hh).1
theorem MapAt.below {w w' : World} {r : Nat} {l : List (Int × Value)} (h : MapAt w r l) (hb : Below w.heap.size w w') : MapAt w' r l := by
  have hlt := h.lt
  obtain ⟨⟨es, clock, hh, he⟩, hn⟩ := h
  exact ⟨⟨es, clock, (hb.block r hlt).trans hh, he⟩, hn⟩
theorem MapAt.alloc {w : World} {r : Nat} {l : List (Int × Value)} (h : MapAt w r l) (o : Obj) : MapAt (w.alloc o) r l := h.below ((Below.refl _ _).alloc (Nat.le_refl _) _)

/-- For the walk: a lookup, a store, a delete. -/
theorem wpList_lookup_L {P : Program} {w : World} {ops : Array Oper} {rest : List Oper} {o : Oper} {ac : Act} {Q : Exit → Act → World → Prop} (hgd : o.guard = none) (m x : Operand) (t : TypeId) (c : Bool) (hop : o.op = Op.lookup t m x c)
    (kt et : TypeId) (ht : P.underlying t = some (.map kt et)) (hk : P.underlying kt = some (.int .i64)) {z : Value} (hz : ∀ w, (zeroValue et).run P w = .ok z w) {r : Nat} {l : List (Int × Value)} (hm : ac.eval m = .map (some r)) (h : MapAt w r l) {k : Int} (hx : ac.eval x = .int .i64 k)
    (hK : wpList P ops Q rest (ac.put o.dst (if c then .tuple #[(lookL k l).getD z, .bool (lookL k l).isSome] else (lookL k l).getD z)) w) : wpList P ops Q (o :: rest) ac w := by
  refine wpList_plain hgd fun K hK' => ?_
  have hr := h.lookup ht hk hz k c
  unfold Oper.wp
  simp only [execOp, hop, hm, hx, Sem.run_bind, hr, Result.andThen_ok, Sem.run_pure, Oper.upon]
  exact hK' _ _ hK

theorem wpList_update_L {P : Program} {w : World} {ops : Array Oper} {rest : List Oper} {o : Oper} {ac : Act} {Q : Exit → Act → World → Prop} (hgd : o.guard = none) (m x v : Operand) (t : TypeId) (hop : o.op = Op.mapUpdate t m x v)
    (kt et : TypeId) (ht : P.underlying t = some (.map kt et)) (hk : P.underlying kt = some (.int .i64)) {r : Nat} {l : List (Int × Value)} (hm : ac.eval m = .map (some r)) (h : MapAt w r l) {k : Int} (hx : ac.eval x = .int .i64 k)
    (hK : ∀ w', MapAt w' r (putL k (ac.eval v) l) → w.grownBy w' (some r) → wpList P ops Q rest (ac.put o.dst undef) w') : wpList P ops Q (o :: rest) ac w := by
  refine wpList_plain hgd fun K hK' => ?_
  obtain ⟨w', hr, h1, h2⟩ := h.update (P := P) ht hk k (ac.eval v)
  unfold Oper.wp
  simp [execOp, hop, hm, hx, hr, Result.andThen]
  exact hK' _ _ (hK w' h1 h2)

theorem wpList_delete_L {P : Program} {w : World} {ops : Array Oper} {rest : List Oper} {o : Oper} {ac : Act} {Q : Exit → Act → World → Prop} (hgd : o.guard = none) (m x : Operand) (t kt et : TypeId) (hop : o.op = Op.call { callee := Callee.builtin Builtin.delete, args := #[m, x], argTypes := #[t, kt] })
    (ht : P.underlying t = some (.map kt et)) (hk : P.underlying kt = some (.int .i64)) {r : Nat} {l : List (Int × Value)} (hm : ac.eval m = .map (some r)) (h : MapAt w r l) {k : Int} (hx : ac.eval x = .int .i64 k)
    (hK : ∀ w', MapAt w' r (delL k l) → w.grownBy w' (some r) → wpList P ops Q rest (ac.put o.dst (.tuple #[])) w') : wpList P ops Q (o :: rest) ac w := by
  refine wpList_plain hgd fun K hK' => ?_
  obtain ⟨w', hr, h1, h2⟩ := h.delete (P := P) (ty := o.type) ht hk k
  unfold Oper.wp
  simp [execOp, hop, resolve, invoke, builtin, hm, hx, hr, Result.andThen]
  exact hK' _ _ (hK w' h1 h2)

end Go.Proofs.YtbldidiibkcelaaGreatDoor

/-
  The boxes of some values, and which interface value is a value's. Not a statement of the seat.
-/
namespace Go.Proofs.YtbldidiibkcelaaGreatDoor
open Go.RowKit

/-- boxes by their numbers: the number, the block -/
abbrev BM := List (Int × Nat)
def bxL (M : BM) : List (Int × Value) := M.map fun p => (p.1, .pointer (some ⟨p.2, 0, none⟩))
def lookB (i : Int) : BM → Option Nat
  | [] => none
  | p :: r => if i = p.1 then some p.2 else lookB i r
theorem look_bxL (i : Int) : ∀ M : BM, lookL i (bxL M) = (lookB i M).map fun b => .pointer (some ⟨b, 0, none⟩)
  | [] => rfl
  | p :: r => by
    show (if i = p.1 then some _ else lookL i (bxL r)) = _
    rw [look_bxL i r, lookB]
    split <;> rfl
theorem lookB_mem {i : Int} {b : Nat} : ∀ {M : BM}, lookB i M = some b → (i, b) ∈ M
  | [], h => by cases h
  | p :: r, h => by
    rw [lookB] at h
    by_cases e : i = p.1
    · rw [if_pos e] at h
      cases h
      rw [e]
      exact List.mem_cons_self
    · rw [if_neg e] at h
      exact List.mem_cons_of_mem _ (lookB_mem h)
theorem lookB_none {i : Int} : ∀ {M : BM}, lookB i M = none → ∀ p ∈ M, p.1 ≠ i
  | [], _, p, hp => by cases hp
  | q :: r, h, p, hp => by
    rw [lookB] at h
    by_cases e : i = q.1
    · rw [if_pos e] at h
      cases h
    · rw [if_neg e] at h
      rcases List.mem_cons.1 hp with rfl | hp
      · exact fun x => e x.symm
      · exact lookB_none h p hp
theorem put_bxL {i : Int} {b : Nat} : ∀ {M : BM}, lookB i M = none → putL i (.pointer (some ⟨b, 0, none⟩)) (bxL M) = bxL (M ++ [(i, b)])
  | [], _ => rfl
  | p :: r, h => by
    rw [lookB] at h
    by_cases e : i = p.1
    · rw [if_pos e] at h
      cases h
    · rw [if_neg e] at h
      show putL i _ ((p.1, _) :: bxL r) = (p.1, _) :: bxL (r ++ [(i, b)])
      rw [putL, if_neg e, put_bxL h]

/-- what a boxes map turns: itself, its boxes -/
def NB (M : BM) (mb : Nat) : Nat → Prop := fun x => x = mb ∨ ∃ p ∈ M, p.2 = x
/-- cells, none of them frozen -/
def Cl (w : World) (b : Nat) : Prop := ∃ cs T, w.heap[b]? = some (.cells cs T (0, 0))
theorem Cl.same {w w' : World} {b : Nat} (h : Cl w b) (e : w'.heap[b]? = w.heap[b]?) : Cl w' b := by
  obtain ⟨cs, T, h⟩ := h
  exact ⟨cs, T, e.trans h⟩
theorem Cl.new (w : World) (cs : Array Value) (T : TypeId) : Cl (w.alloc (.cells cs T)) w.heap.size := ⟨cs, T, heap_alloc_new w _⟩
theorem Cl.set {w : World} {b : Nat} (h : Cl w b) (p : Addr) (u : Value) : Cl (w.setCell p u) b := by
  obtain ⟨cs, T, h⟩ := h
  by_cases e : p.block = b
  · subst e
    simp [Cl, World.setCell, Array.getElem?_modify, h]
  · exact ⟨cs, T, by simp [World.setCell, Array.getElem?_modify, e, h]⟩
theorem Cl.lt {w : World} {b : Nat} (h : Cl w b) : b < w.heap.size := by
  obtain ⟨cs, T, h⟩ := h
  exact (Array.getElem?_eq_some_iff.1 h).1
structure BxM (M : BM) (mb : Nat) (w : World) : Prop where
  map : MapAt w mb (bxL M)
  box : ∀ p ∈ M, ∃ v, Blk w p.2 [.int .i64 p.1, v]
  cl : ∀ p ∈ M, Cl w p.2
section
variable {M M' : BM} {mb : Nat} {w w' : World}
theorem BxM.new (w : World) : BxM [] w.heap.size (w.alloc (.map #[] 0)) := ⟨MapAt.new w, (fun p hp => by cases hp), fun p hp => by cases hp⟩
theorem BxM.lt (h : BxM M mb w) {x : Nat} (hx : NB M mb x) : x < w.heap.size := by
  rcases hx with rfl | ⟨p, hp, rfl⟩
  · exact h.map.lt
  · obtain ⟨v, hv⟩ := h.box p hp
    exact hv.lt
theorem MapAt.same {r : Nat} {l : List (Int × Value)} (h : MapAt w r l) (hb : w'.heap[r]? = w.heap[r]?) : MapAt w' r l := by
  obtain ⟨⟨es, clock, hh, he⟩, hn⟩ := h
  exact ⟨⟨es, clock, hb.trans hh, he⟩, hn⟩
theorem BxM.same (h : BxM M mb w) (hb : ∀ x, NB M mb x → w'.heap[x]? = w.heap[x]?) : BxM M mb w' :=
  ⟨h.map.same (hb mb (.inl rfl)), (fun p hp => by obtain ⟨v, hv⟩ := h.box p hp; exact ⟨v, hv.same (hb p.2 (.inr ⟨p, hp, rfl⟩))⟩), fun p hp => (h.cl p hp).same (hb p.2 (.inr ⟨p, hp, rfl⟩))⟩
theorem BxM.below (h : BxM M mb w) (g : Below w.heap.size w w') : BxM M mb w' := h.same (fun x hx => g.block x (h.lt hx))
theorem BxM.keep {N : Nat → Prop} (h : BxM M mb w) (g : Kept N w w') (hn : ∀ x, NB M mb x → ¬ N x) : BxM M mb w' := h.same (fun x hx => g.block x (h.lt hx) (hn x hx))
theorem BxM.alloc (h : BxM M mb w) (o : Obj) : BxM M mb (w.alloc o) := h.below ((Below.refl _ _).alloc (Nat.le_refl _) _)
/-- one number, one box -/
theorem BxM.one (h : BxM M mb w) {p q : Int × Nat} (hp : p ∈ M) (hq : q ∈ M) : p.1 = q.1 ↔ p.2 = q.2 := by
  constructor
  · intro e
    have hn := h.map.2
    have hm : (bxL M).map (·.1) = M.map (·.1) := by simp [bxL]
    rw [hm] at hn
    have key : ∀ (l : BM), (l.map (·.1)).Nodup → ∀ p q, p ∈ l → q ∈ l → p.1 = q.1 → p = q := by
      intro l
      induction l with
      | nil => intro _ p q hp; cases hp
      | cons a r ih =>
        intro hn p q hp hq e
        simp only [List.map_cons, List.nodup_cons] at hn
        rcases List.mem_cons.1 hp with hp1 | hp1
        · rcases List.mem_cons.1 hq with hq1 | hq1
          · rw [hp1, hq1]
          · refine absurd ?_ hn.1
            rw [← hp1, e]
            exact List.mem_map_of_mem hq1
        · rcases List.mem_cons.1 hq with hq1 | hq1
          · refine absurd ?_ hn.1
            rw [← hq1, ← e]
            exact List.mem_map_of_mem hp1
          · exact ih hn.2 p q hp1 hq1 e
    rw [key M hn p q hp hq e]
  · intro e
    obtain ⟨v, hv⟩ := h.box p hp
    obtain ⟨u, hu⟩ := h.box q hq
    have h1 := hv.cell 0 rfl
    have h2 := hu.cell 0 rfl
    rw [e, h2] at h1
    injection h1 with h1
    injection h1 with _ h1
    exact h1.symm
/-- the `in` of a box is written -/
theorem BxM.fill (h : BxM M mb w) {p : Int × Nat} (hp : p ∈ M) (u : Value) : BxM M mb (w.setCell ⟨p.2, 1, none⟩ u) := by
  obtain ⟨v, hv⟩ := h.box p hp
  have hmap : p.2 ≠ mb := by
    intro e
    obtain ⟨⟨es, clock, hh, _⟩, _⟩ := h.map
    have hc := hv.cell 0 rfl
    rw [e] at hc
    simp [World.cell?, hh] at hc
  refine ⟨h.map.same ((grownBy_setAt w ⟨p.2, 1, none⟩ u).block mb h.map.lt (fun e => hmap (by cases e; rfl))), fun q hq => ?_, fun q hq => (h.cl q hq).set _ _⟩
  obtain ⟨v', hv'⟩ := h.box q hq
  by_cases e : p.2 = q.2
  · have hs := hv'.set (j := 1) u
    rw [← e] at hs ⊢
    exact ⟨u, by simpa using hs⟩
  · exact ⟨v', hv'.other u e⟩
/-- a box more -/
theorem BxM.more {i : Int} {bb : Nat} {v : Value} (h : BxM M mb w) (hn : lookB i M = none) (hb : Blk w bb [.int .i64 i, v]) (hcl : Cl w bb) (hm : MapAt w' mb (putL i (.pointer (some ⟨bb, 0, none⟩)) (bxL M))) (hg : w.grownBy w' (some mb)) : BxM (M ++ [(i, bb)]) mb w' := by
  have hcell : ∀ (x : Nat) (cs : List Value), Blk w x cs → 0 < cs.length → x ≠ mb := fun x cs hx hl e => by
    obtain ⟨⟨es, clock, hh, _⟩, _⟩ := h.map
    have hc := (hx.2 0 hl).1
    rw [e, List.getElem?_eq_getElem hl] at hc
    simp [World.cell?, hh] at hc
  refine ⟨by rw [← put_bxL hn]; exact hm, fun p hp => ?_, fun p hp => ?_⟩
  rotate_left
  · rcases List.mem_append.1 hp with hp | hp
    · obtain ⟨v', hv'⟩ := h.box p hp
      exact (h.cl p hp).same (hg.block _ hv'.lt (fun e => hcell _ _ hv' (by simp) (by cases e; rfl)))
    · rw [List.mem_singleton] at hp
      subst hp
      exact hcl.same (hg.block _ hb.lt (fun e => hcell _ _ hb (by simp) (by cases e; rfl)))
  rcases List.mem_append.1 hp with hp | hp
  · obtain ⟨v', hv'⟩ := h.box p hp
    exact ⟨v', hv'.same (hg.block _ hv'.lt (fun e => hcell _ _ hv' (by simp) (by cases e; rfl)))⟩
  · rw [List.mem_singleton] at hp
    subst hp
    exact ⟨v, hb.same (hg.block _ hb.lt (fun e => hcell _ _ hb (by simp) (by cases e; rfl)))⟩
end

/-- the interface value of one value; P: those of its parts -/
def vOne (M : BM) (k i b : Int) (t : Bs) (P : List Value → Prop) (x : Value) : Prop :=
  if k = 1 then x = .iface 202 (.int .i64 i)
  else if k = 2 then x = .iface 203 (.int .i64 i)
  else if k = 3 then x = .iface 204 (.float .f64 b.toNat)
  else if k = 4 then x = .iface 205 (.string ⟨t.toArray⟩)
  else if k = 5 then x = .iface 206 (.string ⟨t.toArray⟩)
  else if k = 6 then x = .iface 207 (.bool (i == 1))
  else if k = 7 then ∃ a n c, x = .iface 208 (.slice a n c)
  else if k = 8 then ∃ a n c, x = .iface 210 (.slice a n c)
  else if k = 9 then ∃ x1 x2, P [x1, x2] ∧ x = .iface 200 (.agg #[x1, x2])
  else if k = 10 then x = .iface 213 (.agg #[.int .i64 i, .string ⟨t.toArray⟩])
  else if k = 11 then ∃ bb, (i, bb) ∈ M ∧ x = .iface 214 (.pointer (some ⟨bb, 0, none⟩))
  else if k = 12 then x = .iface 214 (.pointer none)
  else if k = 13 then x = .iface 218 (.agg #[])
  else x = .nilIface
/-- .. of a row -/
def ValF (M : BM) : Fo → List Value → Prop
  | .nil, xs => xs = []
  | .cons k i b t kids rest, xs => ∃ x xs', xs = x :: xs' ∧ vOne M k i b t (ValF M kids) x ∧ ValF M rest xs'
theorem vOne.mono {M M' : BM} {k i b : Int} {t : Bs} {P P' : List Value → Prop} {x : Value} (h : vOne M k i b t P x) (hs : ∀ p ∈ M, p ∈ M') (hP : ∀ xs, P xs → P' xs) : vOne M' k i b t P' x := by
  by_cases h9 : k = 9
  · subst h9
    simp only [vOne] at h ⊢
    obtain ⟨x1, x2, h1, rfl⟩ := h
    exact ⟨x1, x2, hP _ h1, rfl⟩
  by_cases h11 : k = 11
  · subst h11
    simp only [vOne] at h ⊢
    obtain ⟨bb, h1, rfl⟩ := h
    exact ⟨bb, hs _ h1, rfl⟩
  unfold vOne at h ⊢
  simp only [if_neg h9, if_neg h11] at h ⊢
  exact h
theorem ValF.mono {M M' : BM} (hs : ∀ p ∈ M, p ∈ M') : ∀ (f : Fo) {xs : List Value}, ValF M f xs → ValF M' f xs
  | .nil, _, h => h
  | .cons k i b t kids rest, xs, h => by
    obtain ⟨x, xs', rfl, h1, h2⟩ := h
    exact ⟨x, xs', rfl, h1.mono hs (fun _ hx => ValF.mono hs kids hx), ValF.mono hs rest h2⟩
theorem ValF.len {M : BM} : ∀ (f : Fo) {xs : List Value}, ValF M f xs → xs.length = f.len
  | .nil, _, h => by cases h; rfl
  | .cons k i b t kids rest, xs, h => by
    obtain ⟨x, xs', rfl, _, h2⟩ := h
    simp [Fo.len, ValF.len rest h2]
theorem ValF.app {M : BM} : ∀ (f : Fo) {g : Fo} {xs ys : List Value}, ValF M f xs → ValF M g ys → ValF M (f.app g) (xs ++ ys)
  | .nil, _, _, _, h, h' => by cases h; exact h'
  | .cons k i b t kids rest, g, xs, ys, h, h' => by
    obtain ⟨x, xs', rfl, h1, h2⟩ := h
    exact ⟨x, xs' ++ ys, rfl, h1, ValF.app rest h2 h'⟩
theorem ValF.two {M : BM} {f : Fo} {x1 x2 : Value} (h : ValF M f [x1, x2]) : ∃ k1 i1 b1 t1 ks1 k2 i2 b2 t2 ks2, f = .cons k1 i1 b1 t1 ks1 (.cons k2 i2 b2 t2 ks2 .nil) ∧ vOne M k1 i1 b1 t1 (ValF M ks1) x1 ∧ vOne M k2 i2 b2 t2 (ValF M ks2) x2 := by
  cases f with
  | nil => cases h
  | cons k1 i1 b1 t1 ks1 r =>
    obtain ⟨x, xs', e, h1, h2⟩ := h
    cases e
    cases r with
    | nil => cases h2
    | cons k2 i2 b2 t2 ks2 r2 =>
      obtain ⟨y, ys', e, h3, h4⟩ := h2
      cases e
      cases r2 with
      | nil => exact ⟨_, _, _, _, _, _, _, _, _, _, rfl, h1, h3⟩
      | cons _ _ _ _ _ _ => obtain ⟨_, _, e, _⟩ := h4; cases e
theorem vOne.one {M : BM} {k i b : Int} {t : Bs} {P : List Value → Prop} {x : Value} (h : vOne M k i b t P x) : x.oneCell' = true := by
  unfold vOne at h
  by_cases h1 : k = 1
  · rw [if_pos h1] at h
    subst h; rfl
  rw [if_neg h1] at h
  by_cases h2 : k = 2
  · rw [if_pos h2] at h
    subst h; rfl
  rw [if_neg h2] at h
  by_cases h3 : k = 3
  · rw [if_pos h3] at h
    subst h; rfl
  rw [if_neg h3] at h
  by_cases h4 : k = 4
  · rw [if_pos h4] at h
    subst h; rfl
  rw [if_neg h4] at h
  by_cases h5 : k = 5
  · rw [if_pos h5] at h
    subst h; rfl
  rw [if_neg h5] at h
  by_cases h6 : k = 6
  · rw [if_pos h6] at h
    subst h; rfl
  rw [if_neg h6] at h
  by_cases h7 : k = 7
  · rw [if_pos h7] at h
    obtain ⟨_, _, _, rfl⟩ := h; rfl
  rw [if_neg h7] at h
  by_cases h8 : k = 8
  · rw [if_pos h8] at h
    obtain ⟨_, _, _, rfl⟩ := h; rfl
  rw [if_neg h8] at h
  by_cases h9 : k = 9
  · rw [if_pos h9] at h
    obtain ⟨_, _, _, rfl⟩ := h; rfl
  rw [if_neg h9] at h
  by_cases h10 : k = 10
  · rw [if_pos h10] at h
    subst h; rfl
  rw [if_neg h10] at h
  by_cases h11 : k = 11
  · rw [if_pos h11] at h
    obtain ⟨_, _, rfl⟩ := h; rfl
  rw [if_neg h11] at h
  by_cases h12 : k = 12
  · rw [if_pos h12] at h
    subst h; rfl
  rw [if_neg h12] at h
  by_cases h13 : k = 13
  · rw [if_pos h13] at h
    subst h; rfl
  rw [if_neg h13] at h
  subst h; rfl
/-- a pair has two parts, a box one -/
def shapeF : Fo → Prop
  | .nil => True
  | .cons k _ _ _ kids rest => ((k = 9 → kids.len = 2) ∧ (k = 11 → kids.len = 1)) ∧ shapeF kids ∧ shapeF rest
theorem shape_right : ∀ f : Fo, rightM f = true → shapeF f
  | .nil, _ => trivial
  | .cons k i b t kids rest, h => by
    simp only [rightM, Bool.and_eq_true] at h
    refine ⟨⟨fun e => ?_, fun e => ?_⟩, shape_right kids h.1.2, shape_right rest h.2⟩
    · have := h.1.1
      subst e
      simp [fitsM] at this
      omega
    · have := h.1.1
      subst e
      simp [fitsM] at this
      omega
theorem shape_app : ∀ (f : Fo) {g : Fo}, shapeF (f.app g) → shapeF g
  | .nil, _, h => h
  | .cons _ _ _ _ _ r, _, h => shape_app r h.2.2
theorem size_app : ∀ (f g : Fo), sizeF (f.app g) = sizeF f + sizeF g
  | .nil, g => by simp [Fo.app, sizeF]
  | .cons _ _ _ _ _ r, g => by simp only [Fo.app, sizeF, size_app r g]; omega
theorem len_size : ∀ f : Fo, f.len ≤ sizeF f
  | .nil => Nat.le_refl _
  | .cons _ _ _ _ _ r => by have := len_size r; simp only [Fo.len, sizeF]; omega

/-- what value comes to: a value, the boxes map behind it, what has turned -/
structure VB (M : BM) (mb : Nat) (w : World) (M' : BM) (w' : World) : Prop where
  bx : BxM M' mb w'
  kept : Kept (NB M mb) w w'
  sub : ∀ p ∈ M, p ∈ M'
  fresh : ∀ p ∈ M', p ∈ M ∨ w.heap.size ≤ p.2
theorem VB.refl {M : BM} {mb : Nat} {w w' : World} (h : BxM M mb w) (g : Below w.heap.size w w') : VB M mb w M w' := ⟨h.below g, .of' g, fun _ hp => hp, fun _ hp => .inl hp⟩
theorem NB.sub {M M' : BM} {mb : Nat} {w : World} (hf : ∀ p ∈ M', p ∈ M ∨ w.heap.size ≤ p.2) {x : Nat} (hx : x < w.heap.size) (h : NB M' mb x) : NB M mb x := by
  rcases h with rfl | ⟨p, hp, rfl⟩
  · exact .inl rfl
  · rcases hf p hp with h | h
    · exact .inr ⟨p, h, rfl⟩
    · omega
theorem VB.trans {M M1 M2 : BM} {mb : Nat} {w w1 w2 : World} (h : VB M mb w M1 w1) (g : VB M1 mb w1 M2 w2) : VB M mb w M2 w2 :=
  ⟨g.bx, h.kept.tail g.kept (fun _ hx hn => NB.sub h.fresh hx hn), fun p hp => g.sub p (h.sub p hp), fun p hp => by
    rcases g.fresh p hp with h1 | h1
    · exact h.fresh p h1
    · exact .inr (Nat.le_trans h.kept.size h1)⟩
theorem VB.calm {M M1 : BM} {mb : Nat} {w w1 w2 : World} (h : VB M mb w M1 w1) (g : Below w1.heap.size w1 w2) : VB M mb w M1 w2 := h.trans (.refl h.bx g)
/-- ahead: a call that turns nothing that lay -/
theorem VB.ahead {M M1 : BM} {mb : Nat} {w w1 w2 : World} (hb : BxM M mb w) (g : Below w.heap.size w w1) (h : VB M mb w1 M1 w2) : VB M mb w M1 w2 := VB.trans (.refl hb g) h
end Go.Proofs.YtbldidiibkcelaaGreatDoor

/-
  boxes.value and boxes.values (walks). Not a statement of the seat.
-/
namespace Go.Proofs.YtbldidiibkcelaaGreatDoor
open Go.RowKit

theorem fb52 (n : Int) (w : World) : (callFunc 81 #[.int .u64 n]).run Tryz.prog w = .ok (.value (.float .f64 n.toNat)) w := by kernel_rfl
/-- what value comes to -/
def BXP (M : BM) (mb : Nat) (w : World) (Q : BM → Value → Prop) (e : Ending) (w' : World) : Prop := ∃ x M', e = .returned x ∧ Q M' x ∧ VB M mb w M' w'
/-- value of a value with these children -/
def BXOK (kids : Fo) : Prop := ∀ (k i b : Int) (t : Bs) (l : Option Addr) (n c : Nat) (S : Nat → Prop) (M : BM) (mb : Nat) (w : World), FoAt S w kids l n c → (∀ x, S x → x < w.heap.size ∧ ¬ NB M mb x) → BxM M mb w →
  (k = 9 → kids.len = 2) → (k = 11 → kids.len = 1) → shapeF kids → sizeF kids ≤ 100000 →
  Calls Tryz.prog 103 #[.map (some mb), .agg #[.int .i64 k, .int .i64 i, .int .u64 b, .string ⟨t.toArray⟩, .slice l n c]] w
    (BXP M mb w (fun M' x => vOne M' k i b t (ValF M' kids) x))
/-- what values comes to -/
def VSP (M : BM) (mb : Nat) (w : World) (kids : Fo) (e : Ending) (w' : World) : Prop :=
  ∃ a n c xs M', e = .returned (.slice a n c) ∧ (Row w.heap.size w' 1 a n c xs ∧ (∀ x, blockOf a = some x → ¬ NB M' mb x)) ∧ ValF M' kids xs ∧ VB M mb w M' w'
def VSRel (M : BM) (mb : Nat) (w : World) (kids : Fo) (t5 t10 : Value) (wr : World) : Prop :=
  ∃ (dn rest : Fo) (a : Option Addr) (c : Nat) (xs : List Value) (M1 : BM), t10 = .int .i64 (dn.len : Nat) ∧ t5 = .slice a dn.len c ∧ kids = dn.app rest ∧ (Row w.heap.size wr 1 a dn.len c xs ∧ (∀ x, blockOf a = some x → ¬ NB M1 mb x)) ∧ ValF M1 dn xs ∧ VB M mb w M1 wr
theorem ifaceInfo : (Tryz.prog.info? 20).map (fun i => (i.zero, i.size, i.bytes)) = some (some .nilIface, 1, 16) := by kernel_rfl
theorem vOne.iface {M : BM} {k i b : Int} {t : Bs} {P : List Value → Prop} {x : Value} (h : vOne M k i b t P x) : x = .nilIface ∨ ∃ u v, x = .iface u v := by
  unfold vOne at h
  by_cases h1 : k = 1
  · rw [if_pos h1] at h
    subst h; exact .inr ⟨_, _, rfl⟩
  rw [if_neg h1] at h
  by_cases h2 : k = 2
  · rw [if_pos h2] at h
    subst h; exact .inr ⟨_, _, rfl⟩
  rw [if_neg h2] at h
  by_cases h3 : k = 3
  · rw [if_pos h3] at h
    subst h; exact .inr ⟨_, _, rfl⟩
  rw [if_neg h3] at h
  by_cases h4 : k = 4
  · rw [if_pos h4] at h
    subst h; exact .inr ⟨_, _, rfl⟩
  rw [if_neg h4] at h
  by_cases h5 : k = 5
  · rw [if_pos h5] at h
    subst h; exact .inr ⟨_, _, rfl⟩
  rw [if_neg h5] at h
  by_cases h6 : k = 6
  · rw [if_pos h6] at h
    subst h; exact .inr ⟨_, _, rfl⟩
  rw [if_neg h6] at h
  by_cases h7 : k = 7
  · rw [if_pos h7] at h
    obtain ⟨_, _, _, rfl⟩ := h; exact .inr ⟨_, _, rfl⟩
  rw [if_neg h7] at h
  by_cases h8 : k = 8
  · rw [if_pos h8] at h
    obtain ⟨_, _, _, rfl⟩ := h; exact .inr ⟨_, _, rfl⟩
  rw [if_neg h8] at h
  by_cases h9 : k = 9
  · rw [if_pos h9] at h
    obtain ⟨_, _, _, rfl⟩ := h; exact .inr ⟨_, _, rfl⟩
  rw [if_neg h9] at h
  by_cases h10 : k = 10
  · rw [if_pos h10] at h
    subst h; exact .inr ⟨_, _, rfl⟩
  rw [if_neg h10] at h
  by_cases h11 : k = 11
  · rw [if_pos h11] at h
    obtain ⟨_, _, rfl⟩ := h; exact .inr ⟨_, _, rfl⟩
  rw [if_neg h11] at h
  by_cases h12 : k = 12
  · rw [if_pos h12] at h
    subst h; exact .inr ⟨_, _, rfl⟩
  rw [if_neg h12] at h
  by_cases h13 : k = 13
  · rw [if_pos h13] at h
    subst h; exact .inr ⟨_, _, rfl⟩
  rw [if_neg h13] at h
  subst h; exact .inl rfl
theorem build_one0 (w : World) : (Instr.buildSlice 209 1 #[(0, .nilIface)]).run Tryz.prog w = .ok (.slice (some ⟨w.heap.size, 0, none⟩) 1 1) (w.alloc (.cells #[.nilIface] 20)) := by kernel_rfl
theorem build_one1 (u : TypeId) (v : Value) (w : World) : (Instr.buildSlice 209 1 #[(0, .iface u v)]).run Tryz.prog w = .ok (.slice (some ⟨w.heap.size, 0, none⟩) 1 1) (w.alloc (.cells #[.iface u v] 20)) := by kernel_rfl
theorem vOne.build {M : BM} {k i b : Int} {t : Bs} {P : List Value → Prop} {x : Value} (h : vOne M k i b t P x) (w : World) : (Instr.buildSlice 209 1 #[(0, x)]).run Tryz.prog w = .ok (.slice (some ⟨w.heap.size, 0, none⟩) 1 1) (w.alloc (.cells #[x] 20)) := by
  rcases h.iface with rfl | ⟨u, v, rfl⟩
  · exact build_one0 w
  · exact build_one1 u v w
theorem VB.grow {M M1 : BM} {mb : Nat} {w w1 w2 : World} (h : VB M mb w M1 w1) {row : Option Nat} (g : w1.grownBy w2 row) (hr : ∀ b, row = some b → w.heap.size ≤ b ∧ ¬ NB M1 mb b) : VB M mb w M1 w2 :=
  ⟨h.bx.same (fun x hx => g.block x (h.bx.lt hx) (fun e => (hr x e.symm).2 hx)), h.kept.grown g (fun b e hb => absurd (hr b e).1 (by omega)), h.sub, h.fresh⟩
theorem FoAt.keepS {S : Nat → Prop} {N : Nat → Prop} {w w' : World} {f : Fo} {l : Option Addr} {n c : Nat} (h : FoAt S w f l n c) (g : Kept N w w') (hn : ∀ x, S x → ¬ N x) : FoAt S w' f l n c :=
  h.same (fun x hx hlt => g.block x hlt (hn x hx)) (fun _ hx _ => hx)

set_option maxHeartbeats 8000000 in
set_option maxRecDepth 100000 in
theorem vbsN {kids : Fo} (hall : kids.All BXOK) {l : Option Addr} {n c : Nat} {S : Nat → Prop} {M : BM} {mb : Nat} {w : World} (hF : FoAt S w kids l n c) (hS : ∀ x, S x → x < w.heap.size ∧ ¬ NB M mb x) (hB : BxM M mb w) (hsh : shapeF kids) (hsz : sizeF kids ≤ 100000) :
    Calls Tryz.prog 114 #[.map (some mb), .slice l n c] w (VSP M mb w kids) := by
  obtain ⟨i0, hi, hy0, hy1, hy2⟩ := info_parts ifaceInfo
  have hlen := hF.len
  have hls := len_size kids
  have hn9 : n ≤ 100000 := by omega
  have HF := Lib.hid hF
  have HS := Lib.hid hS
  have HALL := Lib.hid hall
  have HSH := Lib.hid hsh
  have HSZ := Lib.hid hsz
  have HLEN := Lib.hid hlen
  have H0 := Lib.hid (show VSRel M mb w kids (.slice none 0 0) (.int .i64 0) w from ⟨.nil, kids, none, 0, [], M, rfl, rfl, rfl, ⟨Row.nil _ _ _, fun x hx => by cases hx⟩, rfl, .refl hB (Below.refl _ _)⟩)
  clear hF hS hall hsh hlen hB hls hsz
  go_enter Tryz.func114, Tryz.ntmps114
  go_wp2_with fail
  go_loopw [5, 10] (fun t5 t10 wr => VSRel M mb w kids t5 t10 wr) (fun _ t10 _ => n - (intOf t10).toNat)
  case atStart => exact H0.out
  case round =>
    obtain ⟨dn, rest, a, cp, xs, M1, rfl, rfl, hk, ⟨hR, hRn⟩, hV, hVB⟩ := hrel
    have hlen := HLEN.out
    rw [hk, Fo.len_app] at hlen
    have HR := Lib.hid (And.intro hR hRn)
    have HV := Lib.hid hV
    have HVB := Lib.hid hVB
    clear hR hRn hV H0
    cases rest with
    | nil =>
      have hj : ¬ (dn.len : Int) < (n : Int) := by have : Fo.len .nil = 0 := rfl; omega
      have hke : kids = dn := by rw [hk, Fo.app_nil]
      have HKE := Lib.hid hke
      clear hk hlen hke hVB
      go_wp2_with fail
      go_ret
      exact ⟨a, _, cp, xs, M1, rfl, HR.out, by rw [HKE.out]; exact HV.out, HVB.out⟩
    | cons k2 i2 b2 t2 ks r2 =>
      have hlr : (Fo.cons k2 i2 b2 t2 ks r2).len = r2.len + 1 := rfl
      have hF := HF.out.keepS hVB.kept (fun x hx => (HS.out x hx).2)
      rw [hk] at hF
      obtain ⟨bb, off, a2, n2, cp2, rfl, hkF, e0, e1, e2, e3, e4, hnb, hjn⟩ := hF.elem
      have hj : (dn.len : Int) < (n : Int) := by omega
      have hOK : BXOK ks := by
        have hal := HALL.out
        rw [hk] at hal
        exact (Fo.All.split dn hal).1
      have hsr : shapeF (.cons k2 i2 b2 t2 ks r2) := shape_app dn (by rw [← hk]; exact HSH.out)
      have hsz := size_app dn (.cons k2 i2 b2 t2 ks r2)
      rw [← hk] at hsz
      have hsz9 := HSZ.out
      simp only [sizeF] at hsz
      have hab : Below wr.heap.size wr (wr.alloc (.cells #[.int .i64 k2, .int .i64 i2, .int .u64 b2, .string ⟨t2.toArray⟩, .slice a2 n2 cp2] 25)) := (Below.refl _ _).alloc (Nat.le_refl _) _
      have HAB := Lib.hid hab
      have HC := Lib.hid (hOK k2 i2 b2 t2 a2 n2 cp2 S M1 mb _ (hkF.same (fun x hx hlt => hab.block x hlt) (fun _ hx _ => hx)) (fun x hx => ⟨Nat.lt_of_lt_of_le (HS.out x hx).1 (Nat.le_trans hVB.kept.size hab.size), fun h => (HS.out x hx).2 (NB.sub hVB.fresh (HS.out x hx).1 h)⟩) (hVB.bx.below hab) hsr.1.1 hsr.1.2 hsr.2.1 (by omega))
      have HKK := Lib.hid hk
      have HJ := Lib.hid hjn
      clear hkF hOK hk hlen hF hlr hsr hsz hsz9 hVB hab
      have hdl : dn.len ≤ 100000 := by omega
      generalize hjj : dn.len = j at *
      have HJJ := Lib.hid hjj
      clear hjj
      go_wp2_with (first
        | (go_at_call 103; (with_reducible refine HC.out.mono ?_); rintro e w5 ⟨x, M2, rfl, hx, hvb⟩
           rcases hx.iface with rfl | ⟨u, v, rfl⟩ <;> (
             have HX := Lib.hid hx
             have HVC := Lib.hid (VB.ahead HVB.out.bx HAB.out hvb)
             have hone := hx.one
             have hr2 : Row w.heap.size w5 1 a j cp xs := (HR.out.1.below HAB.out).keep hvb.kept (fun b hb hn => HR.out.2 b hb hn)
             have HR5 := fun o => Lib.hid (hr2.alloc o)
             have HS5 := Lib.hid (Src.oneAt (P := Tryz.prog) (w := w5) (tx := 209) Tryz.underlying209 _ 20 hone (g := w5.heap.size) rfl)
             have hle5 : w.heap.size ≤ w5.heap.size := (HVB.out.trans HVC.out).kept.size
             have HRL := Lib.hid hr2
             clear hx hvb hr2 hone))
        | (at_builtin; refine wpList_append_row rfl _ _ 209 209 rfl 20 i0 .nilIface 1 16 Tryz.underlying209 hi hy0 hy1 hy2 rfl rfl (HR5 _).out 1 _ HS5.out (by unfold maxLen; omega) (by omega) (by simp; omega) ?_; intro a4 c4 w4 hrow hgr hbk4; have HR4 := Lib.hid hrow; have HG4 := Lib.hid hgr; have HB4 := Lib.hid hbk4; clear hrow hgr hbk4))
      all_goals
        have hl2 : (dn.app (.cons k2 i2 b2 t2 ks .nil)).len = j + 1 := by rw [Fo.len_app, HJJ.out, show (Fo.cons k2 i2 b2 t2 ks .nil).len = 1 from rfl]
        refine ⟨⟨dn.app (.cons k2 i2 b2 t2 ks .nil), r2, a4, c4, _, M2, ?_, ?_, ?_, ⟨by rw [hl2]; exact HR4.out, ?_⟩, ?_, ?_⟩, by simp [intOf]; have := HJ.out; omega⟩
        · rw [hl2]; go_num
        · rw [hl2]
        · rw [Fo.app_assoc]; exact HKK.out
        · intro b hb
          rcases HB4.out with h4 | h4
          · have hba : blockOf a = some b := by rw [← h4, hb]
            have hblt := (HR.out.1.lt b hba).2
            exact fun hn => HR.out.2 b hba (NB.sub HVC.out.fresh hblt hn)
          · intro hn
            have h5 := HVC.out.bx.lt hn
            rw [h4] at hb
            cases hb
            simp at h5
            omega
        · exact ValF.app dn (ValF.mono HVC.out.sub dn HV.out) ⟨_, [], rfl, HX.out, rfl⟩
        · refine ((HVB.out.trans HVC.out).calm ((Below.refl _ _).alloc (Nat.le_refl _) _)).grow HG4.out (fun b hb => ⟨(HR.out.1.lt b hb).1, fun hn => ?_⟩)
          exact HR.out.2 b hb (NB.sub HVC.out.fresh (HR.out.1.lt b hb).2 hn)
theorem VB.fill {M M1 : BM} {mb : Nat} {w w1 : World} (h : VB M mb w M1 w1) {p : Int × Nat} (hp : p ∈ M1) (u : Value) : VB M mb w M1 (w1.setCell ⟨p.2, 1, none⟩ u) :=
  ⟨h.bx.fill hp u, h.kept.put (p := ⟨p.2, 1, none⟩) u (fun hlt => by
    rcases h.fresh p hp with h1 | h1
    · exact .inr ⟨p, h1, rfl⟩
    · have hlt' : p.2 < w.heap.size := hlt
      omega), h.sub, h.fresh⟩
theorem zero119 : ∀ w, (zeroValue 214).run Tryz.prog w = .ok (.pointer none) w := fun _ => by kernel_rfl
theorem vOne_nil {M : BM} {k i b : Int} {t : Bs} {P : List Value → Prop} {x : Value} (hk : k ≤ 0 ∨ 14 ≤ k) (h : vOne M k i b t P x) : x = .nilIface := by
  unfold vOne at h
  iterate 13 rw [if_neg (by omega)] at h
  exact h
theorem vOne_if {M : BM} {k i b : Int} {t : Bs} {P : List Value → Prop} {x : Value} (hk : ¬ (k ≤ 0 ∨ 14 ≤ k)) (h : vOne M k i b t P x) : ∃ u v, x = .iface u v := by
  rcases h.iface with rfl | h2
  · exfalso
    unfold vOne at h
    by_cases h1 : k = 1
    · rw [if_pos h1] at h
      cases h
    rw [if_neg h1] at h
    by_cases h2 : k = 2
    · rw [if_pos h2] at h
      cases h
    rw [if_neg h2] at h
    by_cases h3 : k = 3
    · rw [if_pos h3] at h
      cases h
    rw [if_neg h3] at h
    by_cases h4 : k = 4
    · rw [if_pos h4] at h
      cases h
    rw [if_neg h4] at h
    by_cases h5 : k = 5
    · rw [if_pos h5] at h
      cases h
    rw [if_neg h5] at h
    by_cases h6 : k = 6
    · rw [if_pos h6] at h
      cases h
    rw [if_neg h6] at h
    by_cases h7 : k = 7
    · rw [if_pos h7] at h
      obtain ⟨_, _, _, h⟩ := h; cases h
    rw [if_neg h7] at h
    by_cases h8 : k = 8
    · rw [if_pos h8] at h
      obtain ⟨_, _, _, h⟩ := h; cases h
    rw [if_neg h8] at h
    by_cases h9 : k = 9
    · rw [if_pos h9] at h
      obtain ⟨_, _, _, h⟩ := h; cases h
    rw [if_neg h9] at h
    by_cases h10 : k = 10
    · rw [if_pos h10] at h
      cases h
    rw [if_neg h10] at h
    by_cases h11 : k = 11
    · rw [if_pos h11] at h
      obtain ⟨_, _, h⟩ := h; cases h
    rw [if_neg h11] at h
    by_cases h12 : k = 12
    · rw [if_pos h12] at h
      cases h
    rw [if_neg h12] at h
    by_cases h13 : k = 13
    · rw [if_pos h13] at h
      cases h
    rw [if_neg h13] at h
    omega
  · exact h2
theorem two_kids {f : Fo} (h : f.len = 2) : ∃ k1 i1 b1 t1 ks1 k2 i2 b2 t2 ks2, f = .cons k1 i1 b1 t1 ks1 (.cons k2 i2 b2 t2 ks2 .nil) := by
  match f, h with
  | .cons k1 i1 b1 t1 ks1 (.cons k2 i2 b2 t2 ks2 .nil), _ => exact ⟨_, _, _, _, _, _, _, _, _, _, rfl⟩
  | .cons _ _ _ _ _ (.cons _ _ _ _ _ (.cons _ _ _ _ _ r)), h => simp [Fo.len] at h
theorem one_kid {f : Fo} (h : f.len = 1) : ∃ k1 i1 b1 t1 ks1, f = .cons k1 i1 b1 t1 ks1 .nil := by
  match f, h with
  | .cons k1 i1 b1 t1 ks1 .nil, _ => exact ⟨_, _, _, _, _, rfl⟩
  | .cons _ _ _ _ _ (.cons _ _ _ _ _ r), h => simp [Fo.len] at h
theorem FoAt.own {S : Nat → Prop} {w : World} {f : Fo} {l : Option Addr} {n c x : Nat} (h : FoAt S w f l n c) (hn : 0 < n) (hx : blockOf l = some x) : S x := by
  obtain ⟨cs, ⟨_, h2⟩, _⟩ := h
  exact h2 x hn hx
set_option maxHeartbeats 16000000 in
set_option maxRecDepth 100000 in
theorem vbN {kids : Fo} (hall : kids.All BXOK) : BXOK kids := by
  intro k i b t l n c S M mb w hF hS hB h9 h11 hsh hsz
  have HX := boxD_blk w ⟨k, i, b, t, kids⟩ l n c
  have HBW := Lib.hid (boxD_below w ⟨k, i, b, t, kids⟩ l n c)
  have VBW := Lib.hid (VB.refl hB HBW.out)
  have HF1 := Lib.hid (hF.same (w' := boxD w ⟨k, i, b, t, kids⟩ l n c) (fun x hx hlt => HBW.out.block x hlt) (fun _ hx _ => hx))
  have HS1 := Lib.hid (fun (x : Nat) (hx : S x) => And.intro (Nat.lt_of_lt_of_le (hS x hx).1 HBW.out.size) (hS x hx).2)
  have HBL := Lib.hid (fun (x : Nat) (hx : S x) => (hS x hx).1)
  have HPN := Lib.hid (show ¬ NB M mb w.heap.size from fun h => by have := hB.lt h; omega)
  have HPE := Lib.hid (show w.heap.size = w.heap.size from rfl)
  go_enter Tryz.func103, Tryz.ntmps103
  go_upto_region 1 with (fail)
  change Code.wp _ _ _ _ (boxD w ⟨k, i, b, t, kids⟩ l n c)
  have HSZ1 := Lib.hid (show (boxD w ⟨k, i, b, t, kids⟩ l n c).heap.size = w.heap.size + 1 by simp [boxD])
  generalize boxD w ⟨k, i, b, t, kids⟩ l n c = w1 at *
  obtain ⟨p, hp⟩ : ∃ p, p = w.heap.size := ⟨_, rfl⟩
  rw [← hp] at HX HPN
  rw [← hp]
  replace HPE := Lib.hid hp
  have x0 := HX.cell 0 rfl
  have x1 := HX.cell 1 rfl
  have x2 := HX.cell 2 rfl
  have x3 := HX.cell 3 rfl
  have x4 := HX.cell 4 rfl
  clear hF hS hB HX hp
  by_cases hk : k = 0
  · subst hk
    go_wp2_with fail
    go_ret
    exact ⟨_, M, rfl, by simp [vOne], VBW.out⟩
  by_cases hk : k = 1
  · subst hk
    go_wp2_with fail
    go_ret
    exact ⟨_, M, rfl, by simp [vOne], VBW.out⟩
  by_cases hk : k = 2
  · subst hk
    go_wp2_with fail
    go_ret
    exact ⟨_, M, rfl, by simp [vOne], VBW.out⟩
  by_cases hk : k = 3
  · subst hk
    have hfb := fb52 b
    go_wp2_with fail
    go_ret
    exact ⟨_, M, rfl, by simp [vOne], VBW.out⟩
  by_cases hk : k = 4
  · subst hk
    go_wp2_with fail
    go_ret
    exact ⟨_, M, rfl, by simp [vOne], VBW.out⟩
  by_cases hk : k = 5
  · subst hk
    go_wp2_with fail
    go_ret
    exact ⟨_, M, rfl, by simp [vOne], VBW.out⟩
  by_cases hk : k = 6
  · subst hk
    go_wp2_with fail
    go_ret
    exact ⟨_, M, rfl, by simp [vOne], VBW.out⟩
  by_cases hk : k = 7
  · subst hk
    have hcv := Lib.run_convert_string_bytes (P := Tryz.prog) w1 9 208 5 ⟨t.toArray⟩ (u := .string) Tryz.underlying9 Tryz.underlying208 Tryz.underlying5
    have hbw := Lib.bytesWorld_below w1 5 ⟨t.toArray⟩
    generalize Lib.bytesWorld w1 5 ⟨t.toArray⟩ = w2 at *
    have HBB := Lib.hid hbw
    clear hbw
    go_wp2_with fail
    go_ret
    exact ⟨_, M, rfl, by simp [vOne], VBW.out.calm HBB.out⟩
  by_cases hk : k = 8
  · subst hk
    have HC := Lib.hid (vbsN hall HF1.out HS1.out VBW.out.bx hsh hsz)
    go_wp2_with (go_at_call 114; (with_reducible refine HC.out.mono ?_); rintro e w2 ⟨a5, n5, c5, xs, M5, rfl, _, _, hvb⟩; have HVB := Lib.hid hvb; clear hvb)
    go_ret
    exact ⟨_, M5, rfl, by simp [vOne], VBW.out.trans HVB.out⟩
  by_cases hk : k = 9
  · subst hk
    obtain ⟨k1, i1, b1, t1, ks1, k2, i2, b2, t2, ks2, rfl⟩ := two_kids (h9 rfl)
    obtain ⟨bb, off, a1, n1, cp1, rfl, hkF1, e0, e1, e2, e3, e4, hnb, hjn⟩ := FoAt.elem (dn := .nil) HF1.out
    obtain ⟨bb', off', a2, n2, cp2, e, hkF2, f0, f1, f2, f3, f4, _, hjn2⟩ := FoAt.elem (dn := .cons k1 i1 b1 t1 ks1 .nil) HF1.out
    cases e
    replace hjn2 : 1 < n := hjn2
    replace hjn : 0 < n := hjn
    replace e0 : w1.cell? ⟨bb, off, none⟩ = _ := e0
    replace e1 : w1.cell? ⟨bb, off + 1, none⟩ = _ := e1
    replace e2 : w1.cell? ⟨bb, off + 2, none⟩ = _ := e2
    replace e3 : w1.cell? ⟨bb, off + 3, none⟩ = _ := e3
    replace e4 : w1.cell? ⟨bb, off + 4, none⟩ = _ := e4
    replace f0 : w1.cell? ⟨bb, off + 5, none⟩ = _ := f0
    replace f1 : w1.cell? ⟨bb, off + 5 + 1, none⟩ = _ := f1
    replace f2 : w1.cell? ⟨bb, off + 5 + 2, none⟩ = _ := f2
    replace f3 : w1.cell? ⟨bb, off + 5 + 3, none⟩ = _ := f3
    replace f4 : w1.cell? ⟨bb, off + 5 + 4, none⟩ = _ := f4
    simp only [sizeF] at hsz
    have hbS := (HS1.out bb (HF1.out.own (by omega) rfl)).2
    have HKEEP := Lib.hid (show ∀ wx, Kept (NB M mb) w1 wx → wx.cell? ⟨p, 4, none⟩ = some (.slice (some ⟨bb, off, none⟩) n c) ∧ (wx.cell? ⟨bb, off, none⟩ = some (.int .i64 k1) ∧ wx.cell? ⟨bb, off + 1, none⟩ = some (.int .i64 i1) ∧ wx.cell? ⟨bb, off + 2, none⟩ = some (.int .u64 b1) ∧ wx.cell? ⟨bb, off + 3, none⟩ = some (.string ⟨t1.toArray⟩) ∧ wx.cell? ⟨bb, off + 4, none⟩ = some (.slice a1 n1 cp1)) ∧ (wx.cell? ⟨bb, off + 5, none⟩ = some (.int .i64 k2) ∧ wx.cell? ⟨bb, off + 6, none⟩ = some (.int .i64 i2) ∧ wx.cell? ⟨bb, off + 7, none⟩ = some (.int .u64 b2) ∧ wx.cell? ⟨bb, off + 8, none⟩ = some (.string ⟨t2.toArray⟩) ∧ wx.cell? ⟨bb, off + 9, none⟩ = some (.slice a2 n2 cp2)) from fun wx hk => by
      have hp : wx.heap[p]? = w1.heap[p]? := hk.block p (World.block_lt_of_cell? _ _ x4) HPN.out
      have hb : wx.heap[bb]? = w1.heap[bb]? := hk.block bb (World.block_lt_of_cell? _ _ e0) hbS
      have cp := fun (j : Nat) (v : Value) (h : w1.cell? ⟨p, j, none⟩ = some v) => (World.cell?_of_block (a := ⟨p, j, none⟩) hp).trans h
      have cb := fun (j : Nat) (v : Value) (h : w1.cell? ⟨bb, j, none⟩ = some v) => (World.cell?_of_block (a := ⟨bb, j, none⟩) hb).trans h
      exact ⟨cp _ _ x4, ⟨cb _ _ e0, cb _ _ e1, cb _ _ e2, cb _ _ e3, cb _ _ e4⟩, ⟨cb _ _ f0, cb _ _ f1, cb _ _ f2, cb _ _ f3, cb _ _ f4⟩⟩)
    have HC1 := Lib.hid (fun (wx : World) (hx : Below w1.heap.size w1 wx) => hall.1 k1 i1 b1 t1 a1 n1 cp1 S M mb wx (hkF1.same (fun x hx2 hlt => hx.block x hlt) (fun _ hx2 _ => hx2)) (fun x hx2 => ⟨Nat.lt_of_lt_of_le (HS1.out x hx2).1 hx.size, (HS1.out x hx2).2⟩) (VBW.out.bx.below hx) hsh.1.1 hsh.1.2 hsh.2.1 (by omega))
    have HC2 := Lib.hid (fun (M1 : BM) (wx : World) (hv : VB M mb w1 M1 wx) => hall.2.1 k2 i2 b2 t2 a2 n2 cp2 S M1 mb wx (hkF2.keepS hv.kept (fun x hx2 => (HS1.out x hx2).2)) (fun x hx2 => ⟨Nat.lt_of_lt_of_le (HS1.out x hx2).1 hv.kept.size, fun h => (HS1.out x hx2).2 (NB.sub hv.fresh (HS1.out x hx2).1 h)⟩) hv.bx hsh.2.2.1.1 hsh.2.2.1.2 hsh.2.2.2.1 (by omega))
    have hz0 : (0 : Int) < (n : Int) := by omega
    have hz1 : (1 : Int) < (n : Int) := by omega
    clear hkF1 hkF2 hall hsh hsz h9 h11 hbS HF1
    by_cases hk1 : k1 ≤ 0 ∨ 14 ≤ k1
    · by_cases hk2 : k2 ≤ 0 ∨ 14 ≤ k2
      · go_wp2_with fail
        go_region_held3 (fun wx : World => wx.cell? ⟨p, 4, none⟩ = some (.slice (some ⟨bb, off, none⟩) n c) ∧ (wx.cell? ⟨bb, off, none⟩ = some (.int .i64 k1) ∧ wx.cell? ⟨bb, off + 1, none⟩ = some (.int .i64 i1) ∧ wx.cell? ⟨bb, off + 2, none⟩ = some (.int .u64 b1) ∧ wx.cell? ⟨bb, off + 3, none⟩ = some (.string ⟨t1.toArray⟩) ∧ wx.cell? ⟨bb, off + 4, none⟩ = some (.slice a1 n1 cp1)) ∧ (wx.cell? ⟨bb, off + 5, none⟩ = some (.int .i64 k2) ∧ wx.cell? ⟨bb, off + 6, none⟩ = some (.int .i64 i2) ∧ wx.cell? ⟨bb, off + 7, none⟩ = some (.int .u64 b2) ∧ wx.cell? ⟨bb, off + 8, none⟩ = some (.string ⟨t2.toArray⟩) ∧ wx.cell? ⟨bb, off + 9, none⟩ = some (.slice a2 n2 cp2)))
          (first | exact HKEEP.out _ (Kept.refl _ _) | exact HKEEP.out _ (Kept.refl _ _).drew | exact HKEEP.out _ HVA.out.kept | exact HKEEP.out _ HVBB.out.kept)
          (first
            | (go_simp; go_at_call 103; (with_reducible refine (HC1.out _ (Below.refl _ _).drew).mono ?_); rintro eA wA ⟨y1, M1, rfl, hy1, hvA⟩; obtain rfl := vOne_nil hk1 hy1; have HVA := Lib.hid (VB.ahead VBW.out.bx (Below.refl _ _).drew hvA); have HY1 := Lib.hid hy1; clear hy1 hvA)
            | (go_simp; go_at_call 103; (with_reducible refine (HC2.out M1 wA HVA.out).mono ?_); rintro eB wB ⟨y2, M2, rfl, hy2, hvB⟩; obtain rfl := vOne_nil hk2 hy2; have HVBB := Lib.hid (HVA.out.trans hvB); have HSUB := Lib.hid hvB.sub; have HY2 := Lib.hid hy2; clear hy2 hvB))
        all_goals
          go_wp2_with fail
          go_ret
          refine ⟨_, M2, rfl, ?_, VBW.out.trans HVBB.out⟩
          simp only [vOne]
          exact ⟨_, _, ⟨_, _, rfl, HY1.out.mono HSUB.out (fun _ h => ValF.mono HSUB.out _ h), _, _, rfl, HY2.out, rfl⟩, rfl⟩
      · go_wp2_with fail
        go_region_held3 (fun wx : World => wx.cell? ⟨p, 4, none⟩ = some (.slice (some ⟨bb, off, none⟩) n c) ∧ (wx.cell? ⟨bb, off, none⟩ = some (.int .i64 k1) ∧ wx.cell? ⟨bb, off + 1, none⟩ = some (.int .i64 i1) ∧ wx.cell? ⟨bb, off + 2, none⟩ = some (.int .u64 b1) ∧ wx.cell? ⟨bb, off + 3, none⟩ = some (.string ⟨t1.toArray⟩) ∧ wx.cell? ⟨bb, off + 4, none⟩ = some (.slice a1 n1 cp1)) ∧ (wx.cell? ⟨bb, off + 5, none⟩ = some (.int .i64 k2) ∧ wx.cell? ⟨bb, off + 6, none⟩ = some (.int .i64 i2) ∧ wx.cell? ⟨bb, off + 7, none⟩ = some (.int .u64 b2) ∧ wx.cell? ⟨bb, off + 8, none⟩ = some (.string ⟨t2.toArray⟩) ∧ wx.cell? ⟨bb, off + 9, none⟩ = some (.slice a2 n2 cp2)))
          (first | exact HKEEP.out _ (Kept.refl _ _) | exact HKEEP.out _ (Kept.refl _ _).drew | exact HKEEP.out _ HVA.out.kept | exact HKEEP.out _ HVBB.out.kept)
          (first
            | (go_simp; go_at_call 103; (with_reducible refine (HC1.out _ (Below.refl _ _).drew).mono ?_); rintro eA wA ⟨y1, M1, rfl, hy1, hvA⟩; obtain rfl := vOne_nil hk1 hy1; have HVA := Lib.hid (VB.ahead VBW.out.bx (Below.refl _ _).drew hvA); have HY1 := Lib.hid hy1; clear hy1 hvA)
            | (go_simp; go_at_call 103; (with_reducible refine (HC2.out M1 wA HVA.out).mono ?_); rintro eB wB ⟨y2, M2, rfl, hy2, hvB⟩; obtain ⟨u2, v2, rfl⟩ := vOne_if hk2 hy2; have HVBB := Lib.hid (HVA.out.trans hvB); have HSUB := Lib.hid hvB.sub; have HY2 := Lib.hid hy2; clear hy2 hvB))
        all_goals
          go_wp2_with fail
          go_ret
          refine ⟨_, M2, rfl, ?_, VBW.out.trans HVBB.out⟩
          simp only [vOne]
          exact ⟨_, _, ⟨_, _, rfl, HY1.out.mono HSUB.out (fun _ h => ValF.mono HSUB.out _ h), _, _, rfl, HY2.out, rfl⟩, rfl⟩
    · by_cases hk2 : k2 ≤ 0 ∨ 14 ≤ k2
      · go_wp2_with fail
        go_region_held3 (fun wx : World => wx.cell? ⟨p, 4, none⟩ = some (.slice (some ⟨bb, off, none⟩) n c) ∧ (wx.cell? ⟨bb, off, none⟩ = some (.int .i64 k1) ∧ wx.cell? ⟨bb, off + 1, none⟩ = some (.int .i64 i1) ∧ wx.cell? ⟨bb, off + 2, none⟩ = some (.int .u64 b1) ∧ wx.cell? ⟨bb, off + 3, none⟩ = some (.string ⟨t1.toArray⟩) ∧ wx.cell? ⟨bb, off + 4, none⟩ = some (.slice a1 n1 cp1)) ∧ (wx.cell? ⟨bb, off + 5, none⟩ = some (.int .i64 k2) ∧ wx.cell? ⟨bb, off + 6, none⟩ = some (.int .i64 i2) ∧ wx.cell? ⟨bb, off + 7, none⟩ = some (.int .u64 b2) ∧ wx.cell? ⟨bb, off + 8, none⟩ = some (.string ⟨t2.toArray⟩) ∧ wx.cell? ⟨bb, off + 9, none⟩ = some (.slice a2 n2 cp2)))
          (first | exact HKEEP.out _ (Kept.refl _ _) | exact HKEEP.out _ (Kept.refl _ _).drew | exact HKEEP.out _ HVA.out.kept | exact HKEEP.out _ HVBB.out.kept)
          (first
            | (go_simp; go_at_call 103; (with_reducible refine (HC1.out _ (Below.refl _ _).drew).mono ?_); rintro eA wA ⟨y1, M1, rfl, hy1, hvA⟩; obtain ⟨u1, v1, rfl⟩ := vOne_if hk1 hy1; have HVA := Lib.hid (VB.ahead VBW.out.bx (Below.refl _ _).drew hvA); have HY1 := Lib.hid hy1; clear hy1 hvA)
            | (go_simp; go_at_call 103; (with_reducible refine (HC2.out M1 wA HVA.out).mono ?_); rintro eB wB ⟨y2, M2, rfl, hy2, hvB⟩; obtain rfl := vOne_nil hk2 hy2; have HVBB := Lib.hid (HVA.out.trans hvB); have HSUB := Lib.hid hvB.sub; have HY2 := Lib.hid hy2; clear hy2 hvB))
        all_goals
          go_wp2_with fail
          go_ret
          refine ⟨_, M2, rfl, ?_, VBW.out.trans HVBB.out⟩
          simp only [vOne]
          exact ⟨_, _, ⟨_, _, rfl, HY1.out.mono HSUB.out (fun _ h => ValF.mono HSUB.out _ h), _, _, rfl, HY2.out, rfl⟩, rfl⟩
      · go_wp2_with fail
        go_region_held3 (fun wx : World => wx.cell? ⟨p, 4, none⟩ = some (.slice (some ⟨bb, off, none⟩) n c) ∧ (wx.cell? ⟨bb, off, none⟩ = some (.int .i64 k1) ∧ wx.cell? ⟨bb, off + 1, none⟩ = some (.int .i64 i1) ∧ wx.cell? ⟨bb, off + 2, none⟩ = some (.int .u64 b1) ∧ wx.cell? ⟨bb, off + 3, none⟩ = some (.string ⟨t1.toArray⟩) ∧ wx.cell? ⟨bb, off + 4, none⟩ = some (.slice a1 n1 cp1)) ∧ (wx.cell? ⟨bb, off + 5, none⟩ = some (.int .i64 k2) ∧ wx.cell? ⟨bb, off + 6, none⟩ = some (.int .i64 i2) ∧ wx.cell? ⟨bb, off + 7, none⟩ = some (.int .u64 b2) ∧ wx.cell? ⟨bb, off + 8, none⟩ = some (.string ⟨t2.toArray⟩) ∧ wx.cell? ⟨bb, off + 9, none⟩ = some (.slice a2 n2 cp2)))
          (first | exact HKEEP.out _ (Kept.refl _ _) | exact HKEEP.out _ (Kept.refl _ _).drew | exact HKEEP.out _ HVA.out.kept | exact HKEEP.out _ HVBB.out.kept)
          (first
            | (go_simp; go_at_call 103; (with_reducible refine (HC1.out _ (Below.refl _ _).drew).mono ?_); rintro eA wA ⟨y1, M1, rfl, hy1, hvA⟩; obtain ⟨u1, v1, rfl⟩ := vOne_if hk1 hy1; have HVA := Lib.hid (VB.ahead VBW.out.bx (Below.refl _ _).drew hvA); have HY1 := Lib.hid hy1; clear hy1 hvA)
            | (go_simp; go_at_call 103; (with_reducible refine (HC2.out M1 wA HVA.out).mono ?_); rintro eB wB ⟨y2, M2, rfl, hy2, hvB⟩; obtain ⟨u2, v2, rfl⟩ := vOne_if hk2 hy2; have HVBB := Lib.hid (HVA.out.trans hvB); have HSUB := Lib.hid hvB.sub; have HY2 := Lib.hid hy2; clear hy2 hvB))
        all_goals
          go_wp2_with fail
          go_ret
          refine ⟨_, M2, rfl, ?_, VBW.out.trans HVBB.out⟩
          simp only [vOne]
          exact ⟨_, _, ⟨_, _, rfl, HY1.out.mono HSUB.out (fun _ h => ValF.mono HSUB.out _ h), _, _, rfl, HY2.out, rfl⟩, rfl⟩
  by_cases hk : k = 10
  · subst hk
    go_wp2_with fail
    go_ret
    exact ⟨_, M, rfl, by simp [vOne], VBW.out⟩
  by_cases hk : k = 11
  · subst hk
    obtain ⟨k1, i1, b1, t1, ks1, rfl⟩ := one_kid (h11 rfl)
    obtain ⟨bb, off, a1, n1, cp1, rfl, hkF1, e0, e1, e2, e3, e4, hnb, hjn⟩ := FoAt.elem (dn := .nil) HF1.out
    replace hjn : 0 < n := hjn
    replace e0 : w1.cell? ⟨bb, off, none⟩ = _ := e0
    replace e1 : w1.cell? ⟨bb, off + 1, none⟩ = _ := e1
    replace e2 : w1.cell? ⟨bb, off + 2, none⟩ = _ := e2
    replace e3 : w1.cell? ⟨bb, off + 3, none⟩ = _ := e3
    replace e4 : w1.cell? ⟨bb, off + 4, none⟩ = _ := e4
    simp only [sizeF] at hsz
    have hbS := (HS1.out bb (HF1.out.own (by omega) rfl)).2
    have HBS := Lib.hid hbS
    have hz0 : (0 : Int) < (n : Int) := by omega
    have HC := Lib.hid (fun (M1 : BM) (wx : World) (hv : VB M mb w1 M1 wx) => hall.1 k1 i1 b1 t1 a1 n1 cp1 S M1 mb wx (hkF1.keepS hv.kept (fun x hx2 => (HS1.out x hx2).2)) (fun x hx2 => ⟨Nat.lt_of_lt_of_le (HS1.out x hx2).1 hv.kept.size, fun h => (HS1.out x hx2).2 (NB.sub hv.fresh (HS1.out x hx2).1 h)⟩) hv.bx hsh.1.1 hsh.1.2 hsh.2.1 (by omega))
    have HM := Lib.hid VBW.out.bx.map
    have hlb := look_bxL i M
    clear hkF1 hall hsh hsz h9 h11 hbS HF1
    cases hlk : lookB i M with
    | some bx =>
      rw [hlk] at hlb
      have HQ := Lib.hid hlb
      have HMEM := Lib.hid (lookB_mem hlk)
      clear hlb hlk
      have hlkp : (Instr.lookup 176 (.map (some mb)) (.int .i64 i) false).run Tryz.prog w1 = .ok (.pointer (some ⟨bx, 0, none⟩)) w1 := by
        have h := HM.out.lookup (P := Tryz.prog) Tryz.underlying176 Tryz.underlying2 zero119 i false
        rw [HQ.out] at h
        exact h
      go_wp2_with (first
        | (go_at_call 103; (with_reducible refine (HC.out M w1 (VB.refl VBW.out.bx (Below.refl _ _))).mono ?_); rintro e w3 ⟨y, M1, rfl, hy, hvb⟩
           have HVB := Lib.hid hvb
           obtain ⟨v', hv'⟩ := hvb.bx.box _ (hvb.sub _ HMEM.out)
           have g1 := hv'.cell 1 rfl
           have gf := hv'.free 1 (by simp)
           rcases hy.iface with rfl | ⟨u, v, rfl⟩ <;> clear hy hvb hv'))
      all_goals
        go_ret
        exact ⟨_, M1, rfl, by simp only [vOne]; exact ⟨bx, HVB.out.sub _ HMEM.out, rfl⟩, VBW.out.trans (HVB.out.fill (HVB.out.sub _ HMEM.out) _)⟩
    | none =>
      rw [hlk] at hlb
      have HQ := Lib.hid hlb
      have HN := Lib.hid hlk
      clear hlb hlk
      have HZ := Lib.hid (Blk.new w1 #[.int .i64 i, .nilIface] 216)
      have hza : Below w1.heap.size w1 (w1.alloc (.cells #[.int .i64 i, .nilIface] 216)) := (Below.refl _ _).alloc (Nat.le_refl _) _
      have HZA := Lib.hid hza
      replace x1 := x1
      have xa1 := cellAt hza x1
      clear hza
      have hlkp : (Instr.lookup 176 (.map (some mb)) (.int .i64 i) false).run Tryz.prog w1 = .ok (.pointer none) w1 := by
        have h := HM.out.lookup (P := Tryz.prog) Tryz.underlying176 Tryz.underlying2 zero119 i false
        rw [HQ.out] at h
        exact h
      obtain ⟨w2, hrun, hm2, hg2⟩ := (HM.out.alloc (.cells #[.int .i64 i, .nilIface] 216)).update (P := Tryz.prog) Tryz.underlying176 Tryz.underlying2 i (.pointer (some ⟨w1.heap.size, 0, none⟩))
      have HM2 := Lib.hid hm2
      have HG2 := Lib.hid hg2
      clear hm2 hg2
      go_upto_region 27 with (fail)
      clear hrun hlkp
      obtain ⟨bx, hbx⟩ : ∃ bx, bx = w1.heap.size := ⟨_, rfl⟩
      rw [← hbx] at HZ
      have hvx : VB M mb w1 (M ++ [(i, bx)]) w2 := by
        refine ⟨(VBW.out.bx.below HZA.out).more HN.out HZ.out (by rw [hbx]; exact Cl.new _ _ _) (by rw [hbx]; exact HM2.out) HG2.out, (Kept.of' HZA.out).grown HG2.out (fun b hb _ => by cases hb; exact .inl rfl), fun p hp => List.mem_append_left _ hp, fun p hp => ?_⟩
        rcases List.mem_append.1 hp with hp | hp
        · exact .inl hp
        · rw [List.mem_singleton] at hp; subst hp; exact .inr (by rw [hbx]; exact Nat.le_refl _)
      have HVX := Lib.hid hvx
      have hp2 : w2.heap[p]? = w1.heap[p]? := hvx.kept.block p (World.block_lt_of_cell? _ _ x4) HPN.out
      have hb2 : w2.heap[bb]? = w1.heap[bb]? := hvx.kept.block bb (World.block_lt_of_cell? _ _ e0) HBS.out
      have cp := fun (j : Nat) (v : Value) (h : w1.cell? ⟨p, j, none⟩ = some v) => (World.cell?_of_block (a := ⟨p, j, none⟩) hp2).trans h
      have cb := fun (j : Nat) (v : Value) (h : w1.cell? ⟨bb, j, none⟩ = some v) => (World.cell?_of_block (a := ⟨bb, j, none⟩) hb2).trans h
      replace x4 := cp _ _ x4
      replace e0 := cb _ _ e0
      replace e1 := cb _ _ e1
      replace e2 := cb _ _ e2
      replace e3 := cb _ _ e3
      replace e4 := cb _ _ e4
      rw [← hbx]
      have HBXE := Lib.hid hbx
      have HMEM := Lib.hid (show (i, bx) ∈ M ++ [(i, bx)] from List.mem_append_right _ (List.mem_singleton.2 rfl))
      clear hvx hp2 hb2 cp cb hbx x0 x1 x2 x3 xa1 HM2 HG2 HZ HZA
      go_wp2_with (go_at_call 103; (with_reducible refine (HC.out _ w2 HVX.out).mono ?_); rintro e w3 ⟨y, M1, rfl, hy, hvb⟩
                   have HVB := Lib.hid hvb
                   obtain ⟨v', hv'⟩ := hvb.bx.box _ (hvb.sub _ HMEM.out)
                   have g1 := hv'.cell 1 rfl
                   have gf := hv'.free 1 (by simp)
                   rcases hy.iface with rfl | ⟨u, v, rfl⟩ <;> clear hy hvb hv')
      all_goals
        go_ret
        exact ⟨_, M1, rfl, by simp only [vOne]; exact ⟨bx, HVB.out.sub _ HMEM.out, rfl⟩, VBW.out.trans (HVX.out.trans (HVB.out.fill (HVB.out.sub _ HMEM.out) _))⟩
  by_cases hk : k = 12
  · subst hk
    go_wp2_with fail
    go_ret
    exact ⟨_, M, rfl, by simp [vOne], VBW.out⟩
  by_cases hk : k = 13
  · subst hk
    go_wp2_with fail
    go_ret
    exact ⟨_, M, rfl, by simp [vOne], VBW.out⟩
  have g1 : (k == 1) = false := by simpa using (show ¬ k = 1 by assumption)
  have g2 : (k == 2) = false := by simpa using (show ¬ k = 2 by assumption)
  have g3 : (k == 3) = false := by simpa using (show ¬ k = 3 by assumption)
  have g4 : (k == 4) = false := by simpa using (show ¬ k = 4 by assumption)
  have g5 : (k == 5) = false := by simpa using (show ¬ k = 5 by assumption)
  have g6 : (k == 6) = false := by simpa using (show ¬ k = 6 by assumption)
  have g7 : (k == 7) = false := by simpa using (show ¬ k = 7 by assumption)
  have g8 : (k == 8) = false := by simpa using (show ¬ k = 8 by assumption)
  have g9 : (k == 9) = false := by simpa using (show ¬ k = 9 by assumption)
  have g10 : (k == 10) = false := by simpa using (show ¬ k = 10 by assumption)
  have g11 : (k == 11) = false := by simpa using (show ¬ k = 11 by assumption)
  have g12 : (k == 12) = false := by simpa using (show ¬ k = 12 by assumption)
  have g13 : (k == 13) = false := by simpa using (show ¬ k = 13 by assumption)
  have hk0 : k ≤ 0 ∨ 14 ≤ k := by omega
  have HK0 := Lib.hid hk0
  clear hk0
  go_wp2_with fail
  go_ret
  refine ⟨_, M, rfl, ?_, VBW.out⟩
  have hk0 := HK0.out
  show vOne M k i b t (ValF M kids) Value.nilIface
  unfold vOne
  iterate 13 rw [if_neg (by omega)]
theorem vbAll : ∀ f : Fo, f.All BXOK
  | .nil => trivial
  | .cons _ _ _ _ kids rest => ⟨vbN (vbAll kids), vbAll rest⟩
theorem vbG (kids : Fo) : BXOK kids := vbN (vbAll kids)
end Go.Proofs.YtbldidiibkcelaaGreatDoor
