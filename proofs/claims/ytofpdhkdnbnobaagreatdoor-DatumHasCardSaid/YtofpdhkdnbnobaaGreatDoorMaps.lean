/-
  Maps whose keys are int64, as lists of keys and values, for the proofs of this seat. Not a statement of the seat.
-/
import Derived.WalkKit
import Derived.Below
import Derived.Carry
import Derived.Maps.OwnSet
namespace Go.Proofs.YtofpdhkdnbnobaaGreatDoor
open Go.RowKit

/-- Block r is a map that holds l (in some order that nobody sees; no key twice). -/
def MapAt (w : World) (r : Nat) (l : List (Int × Value)) : Prop :=
  (∃ es clock, w.heap[r]? = some (.map es clock) ∧ es.toList.map (fun e => (e.key, e.val)) = l.map (fun p => (Value.int .i64 p.1, p.2))) ∧ (l.map (·.1)).Nodup

/-- What a map holds at a key. -/
def lookL (k : Int) : List (Int × Value) → Option Value
  | [] => none
  | p :: r => if k = p.1 then some p.2 else lookL k r
/-- A store. -/
def putL (k : Int) (v : Value) : List (Int × Value) → List (Int × Value)
  | [] => [(k, v)]
  | p :: r => if k = p.1 then (k, v) :: r else p :: putL k v r
/-- delete -/
def delL (k : Int) : List (Int × Value) → List (Int × Value)
  | [] => []
  | p :: r => if k = p.1 then r else p :: delL k r
/-- the place of a key -/
def findL (k : Int) : List (Int × Value) → Nat → Option (Nat × Value)
  | [], _ => none
  | p :: r, i => if k = p.1 then some (i, p.2) else findL k r (i + 1)

theorem lookL_none {k : Int} : ∀ {l : List (Int × Value)}, lookL k l = none ↔ ¬ k ∈ l.map (·.1)
  | [] => by simp [lookL]
  | p :: r => by
    by_cases h : k = p.1
    · simp [lookL, h]
    · simp [lookL, h, lookL_none]
theorem lookL_put (k k' : Int) (v : Value) : ∀ l : List (Int × Value), lookL k' (putL k v l) = if k' = k then some v else lookL k' l
  | [] => by simp only [putL, lookL]
  | p :: r => by
    by_cases h : k = p.1
    · simp only [putL, h, if_true, lookL]
      split <;> simp [*]
    · simp only [putL, if_neg h, lookL, lookL_put k k' v r]
      by_cases e : k' = p.1
      · have hn : ¬ k' = k := fun x => h (x.symm.trans e)
        rw [if_pos e, if_pos e, if_neg hn]
      · rw [if_neg e, if_neg e]
theorem keys_put (k : Int) (v : Value) : ∀ l : List (Int × Value), (putL k v l).map (·.1) = if k ∈ l.map (·.1) then l.map (·.1) else l.map (·.1) ++ [k]
  | [] => by simp [putL]
  | p :: r => by
    by_cases h : k = p.1
    · simp [putL, h]
    · rw [putL, if_neg h]
      simp only [List.map_cons, keys_put k v r, List.mem_cons, h, false_or]
      split <;> simp
theorem nodup_put {k : Int} {v : Value} {l : List (Int × Value)} (h : (l.map (·.1)).Nodup) : ((putL k v l).map (·.1)).Nodup := by
  rw [keys_put]
  split
  · exact h
  · rename_i hn
    rw [List.nodup_append]
    exact ⟨h, by simp, fun a ha b hb => by simp at hb; subst hb; exact fun e => hn (e ▸ ha)⟩
theorem keys_del (k : Int) : ∀ l : List (Int × Value), (delL k l).map (·.1) = (l.map (·.1)).erase k
  | [] => by simp [delL]
  | p :: r => by
    by_cases h : k = p.1
    · simp [delL, h]
    · have h' : ¬ p.1 = k := fun e => h e.symm
      simp [delL, h, h', keys_del k r]
theorem nodup_del {k : Int} {l : List (Int × Value)} (h : (l.map (·.1)).Nodup) : ((delL k l).map (·.1)).Nodup := by
  rw [keys_del]; exact h.erase _
theorem lookL_del {k k' : Int} : ∀ {l : List (Int × Value)}, (l.map (·.1)).Nodup → lookL k' (delL k l) = if k' = k then none else lookL k' l
  | [], _ => by simp [delL, lookL]
  | p :: r, h => by
    simp only [List.map_cons, List.nodup_cons] at h
    by_cases e : k = p.1
    · simp only [delL, e, if_true, lookL]
      by_cases e2 : k' = p.1
      · rw [if_pos e2, e2]; exact lookL_none.2 h.1
      · rw [if_neg e2, if_neg e2]
    · simp only [delL, if_neg e, lookL, lookL_del h.2]
      by_cases e2 : k' = p.1
      · have hn : ¬ k' = k := fun x => e (x.symm.trans e2)
        rw [if_pos e2, if_pos e2, if_neg hn]
      · rw [if_neg e2, if_neg e2]

theorem map_eraseIdx' {α β : Type} (f : α → β) : ∀ (l : List α) (j : Nat), (l.eraseIdx j).map f = (l.map f).eraseIdx j
  | [], _ => by simp
  | a :: r, 0 => by simp
  | a :: r, j + 1 => by simp [map_eraseIdx' f r j]

theorem findL_look (k : Int) : ∀ (l : List (Int × Value)) (i : Nat), (findL k l i).map (·.2) = lookL k l
  | [], _ => rfl
  | p :: r, i => by
    by_cases h : k = p.1
    · simp [findL, lookL, h]
    · simp only [findL, lookL, if_neg h]; exact findL_look k r (i + 1)
theorem findL_ge {k : Int} : ∀ {l : List (Int × Value)} {i j : Nat} {v : Value}, findL k l i = some (j, v) → i ≤ j ∧ j - i < l.length
  | [], _, _, _, h => by simp [findL] at h
  | p :: r, i, j, v, h => by
    by_cases e : k = p.1
    · simp [findL, e] at h; simp; omega
    · simp only [findL, if_neg e] at h; have := findL_ge h; simp; omega
theorem findL_put {k : Int} {v' : Value} : ∀ {l : List (Int × Value)} {i j : Nat} {v : Value}, findL k l i = some (j, v) → putL k v' l = l.modify (j - i) (fun _ => (k, v'))
  | [], _, _, _, h => by simp [findL] at h
  | p :: r, i, j, v, h => by
    by_cases e : k = p.1
    · simp [findL, e] at h
      obtain ⟨rfl, rfl⟩ := h
      simp [putL, e]
    · simp only [findL, if_neg e] at h
      have hg := findL_ge h
      rw [putL, if_neg e, findL_put h, show j - i = (j - (i + 1)) + 1 by omega, List.modify_succ_cons]
theorem findL_none {k : Int} {v' : Value} : ∀ {l : List (Int × Value)} {i : Nat}, findL k l i = none → putL k v' l = l ++ [(k, v')] ∧ delL k l = l
  | [], _, _ => ⟨rfl, rfl⟩
  | p :: r, i, h => by
    by_cases e : k = p.1
    · simp [findL, e] at h
    · simp only [findL, if_neg e] at h
      obtain ⟨h1, h2⟩ := findL_none (v' := v') h
      exact ⟨by rw [putL, if_neg e, h1]; rfl, by rw [delL, if_neg e, h2]⟩
theorem findL_del {k : Int} : ∀ {l : List (Int × Value)} {i j : Nat} {v : Value}, findL k l i = some (j, v) → delL k l = l.eraseIdx (j - i)
  | [], _, _, _, h => by simp [findL] at h
  | p :: r, i, j, v, h => by
    by_cases e : k = p.1
    · simp [findL, e] at h
      obtain ⟨rfl, rfl⟩ := h
      simp [delL, e]
    · simp only [findL, if_neg e] at h
      have hg := findL_ge h
      rw [delL, if_neg e, findL_del h, show j - i = (j - (i + 1)) + 1 by omega, List.eraseIdx_cons_succ]

section
variable {P : Program} {w : World}

theorem findNow_L {k : Int} : ∀ {es : List MapEntry} {l : List (Int × Value)} {i : Nat}, es.map (fun e => (e.key, e.val)) = l.map (fun p => (Value.int .i64 p.1, p.2)) → Instr.findNow (.int .i64) (.int .i64 k) es i = some (findL k l i)
  | [], [], _, _ => rfl
  | [], p :: r, _, h => by simp at h
  | e :: es, [], _, h => by simp at h
  | e :: es, p :: r, i, h => by
    simp only [List.map_cons, List.cons.injEq, Prod.mk.injEq] at h
    obtain ⟨⟨hk, hv⟩, hr⟩ := h
    by_cases e : k = p.1
    · simp [Instr.findNow, Instr.sameNow, hk, hv, findL, e]
    · have e' : (k == p.1) = false := by simpa using e
      simp only [Instr.findNow, Instr.sameNow, hk, findL, if_neg e, e']
      exact findNow_L hr

theorem run_findKey_L {kt : TypeId} (hk : P.underlying kt = some (.int .i64)) {k : Int} {es : List MapEntry} {l : List (Int × Value)} (h : es.map (fun e => (e.key, e.val)) = l.map (fun p => (Value.int .i64 p.1, p.2))) :
    (Instr.findKey kt (.int .i64 k) es).run P w = .ok (findL k l 0) w := by
  simp [Instr.findKey, run_underlying hk, findNow_L (i := 0) h]

theorem run_checkKey_L {kt : TypeId} (hk : P.underlying kt = some (.int .i64)) (b : Bool) (k : Int) : (Instr.checkKey b 10000 kt (.int .i64 k)).run P w = .ok () w := by
  rw [show (10000 : Nat) = 9999 + 1 from rfl, Instr.checkKey]
  simp [run_underlying hk]

theorem run_getObj_map {r : Nat} {es : Array MapEntry} {c : Nat} (h : w.heap[r]? = some (.map es c)) : (getObj r).run P w = .ok (.map es c) w := by simp [getObj, Sem.run, h]
theorem run_setObj_map {r : Nat} {es : Array MapEntry} {c : Nat} (o : Obj) (h : w.heap[r]? = some (.map es c)) : (setObj r o).run P w = .ok () { w with heap := w.heap.setIfInBounds r o } := by simp [setObj, Sem.run, h]

/-- 'v, ok := m[k]' and 'm[k]' -/
theorem MapAt.lookup {r : Nat} {l : List (Int × Value)} (h : MapAt w r l) {t kt et : TypeId} (ht : P.underlying t = some (.map kt et)) (hk : P.underlying kt = some (.int .i64)) {z : Value} (hz : ∀ w, (zeroValue et).run P w = .ok z w) (k : Int) (c : Bool) :
    (Instr.lookup t (.map (some r)) (.int .i64 k) c).run P w = .ok (if c then .tuple #[(lookL k l).getD z, .bool (lookL k l).isSome] else (lookL k l).getD z) w := by
  obtain ⟨⟨es, clock, hh, he⟩, _⟩ := h
  have hf := findL_look k l 0
  simp only [Instr.lookup, Sem.run_bind, run_underlying ht, Result.andThen_ok, run_getObj_map hh, Sem.run_pure, run_checkKey_L hk, run_findKey_L hk he]
  cases hq : findL k l 0 with
  | none =>
    rw [hq] at hf
    simp only [Option.map_none] at hf
    rw [← hf]
    cases c <;> simp [hz]
  | some x =>
    obtain ⟨j, v⟩ := x
    rw [hq] at hf
    simp only [Option.map_some] at hf
    rw [← hf]
    cases c <;> simp

theorem grownBy_set (w : World) (r : Nat) (o : Obj) : w.grownBy { w with heap := w.heap.setIfInBounds r o } (some r) :=
  ⟨rfl, rfl, rfl, by simp, fun k _ hn => by
    have hne : r ≠ k := fun e => hn (by rw [e])
    simp [Array.getElem?_setIfInBounds_ne hne]⟩

/-- 'm[k] = v' -/
theorem MapAt.update {r : Nat} {l : List (Int × Value)} (h : MapAt w r l) {t kt et : TypeId} (ht : P.underlying t = some (.map kt et)) (hk : P.underlying kt = some (.int .i64)) (k : Int) (v : Value) :
    ∃ w', (Instr.mapUpdate t (.map (some r)) (.int .i64 k) v).run P w = .ok () w' ∧ MapAt w' r (putL k v l) ∧ w.grownBy w' (some r) := by
  obtain ⟨⟨es, clock, hh, he⟩, hn⟩ := h
  have hlt : r < w.heap.size := (Array.getElem?_eq_some_iff.1 hh).1
  have hlen : es.size = l.length := by have := congrArg List.length he; simpa using this
  cases hq : findL k l 0 with
  | none =>
    obtain ⟨hp, _⟩ := findL_none (v' := v) hq
    refine ⟨{ w with heap := w.heap.setIfInBounds r (.map (es.push { key := .int .i64 k, val := v, born := clock }) (clock + 1)) }, ?_, ⟨⟨es.push { key := .int .i64 k, val := v, born := clock }, clock + 1, by simp [hlt], by simp [hp, he]⟩, nodup_put hn⟩, grownBy_set _ _ _⟩
    simp [Instr.mapUpdate, run_underlying ht, run_getObj_map hh, run_checkKey_L hk, run_findKey_L hk he, hq, run_setObj_map _ hh]
  | some x =>
    obtain ⟨j, u⟩ := x
    have hp := findL_put (v' := v) hq
    have hj := findL_ge hq
    rw [Nat.sub_zero] at hp hj
    have hkey : ((es[j]?).map (·.key)).getD (.int .i64 k) = .int .i64 k := by
      have h1 := congrArg (fun l => l[j]?) he
      simp only [List.getElem?_map, Array.getElem?_toList] at h1
      cases he2 : es[j]? with
      | none => simp
      | some e0 =>
        rw [he2] at h1
        have hkk : ∀ (l : List (Int × Value)) (i j : Nat) (v : Value), findL k l i = some (j, v) → (l[j - i]?).map (·.1) = some k := by
          intro l
          induction l with
          | nil => intro i j v h; simp [findL] at h
          | cons p r ih =>
            intro i j v h
            by_cases e : k = p.1
            · simp [findL, e] at h; obtain ⟨rfl, _⟩ := h; simp [e]
            · simp only [findL, if_neg e] at h
              have := findL_ge h
              have hi := ih (i + 1) j v h
              rw [show j - i = (j - (i + 1)) + 1 by omega, List.getElem?_cons_succ]
              exact hi
        have h2 := hkk l 0 j u hq
        rw [Nat.sub_zero] at h2
        cases hl : l[j]? with
        | none => rw [hl] at h2; simp at h2
        | some p =>
          rw [hl] at h1 h2
          simp only [Option.map_some, Option.some.injEq, Prod.mk.injEq] at h1 h2
          simp [h1.1, h2]
    refine ⟨{ w with heap := w.heap.setIfInBounds r (.map (es.modify j fun e => { e with key := .int .i64 k, val := v }) clock) }, ?_, ⟨⟨es.modify j fun e => { e with key := .int .i64 k, val := v }, clock, by simp [hlt], ?_⟩, nodup_put hn⟩, grownBy_set _ _ _⟩
    · have hsb : Instr.sameBits 10000 (.int .i64 k) (.int .i64 k) = true := by rw [show (10000 : Nat) = 9999 + 1 from rfl, Instr.sameBits]; simp
      simp [Instr.mapUpdate, run_underlying ht, run_getObj_map hh, run_checkKey_L hk, run_findKey_L hk he, hq, hkey, Instr.keyThatStays, hsb, run_setObj_map _ hh]
    · rw [hp]
      simp only [Array.toList_modify]
      apply List.ext_getElem?
      intro i
      have h1 := congrArg (fun l => l[i]?) he
      simp only [List.getElem?_map, Array.getElem?_toList] at h1
      simp only [List.getElem?_map, List.getElem?_modify, Array.getElem?_toList]
      by_cases hij : j = i
      · subst hij
        simp only [if_true]
        cases he2 : es[j]? with
        | none =>
          rw [he2] at h1
          cases hl : l[j]? with
          | none => simp
          | some p => rw [hl] at h1; simp at h1
        | some e0 =>
          rw [he2] at h1
          cases hl : l[j]? with
          | none => rw [hl] at h1; simp at h1
          | some p => simp
      · simpa [hij] using h1

/-- 'delete(m, k)' -/
theorem MapAt.delete {r : Nat} {l : List (Int × Value)} (h : MapAt w r l) {t kt et ty : TypeId} (ht : P.underlying t = some (.map kt et)) (hk : P.underlying kt = some (.int .i64)) (k : Int) :
    ∃ w', (Builtin.delete_ #[t, kt] ty #[.map (some r), .int .i64 k]).run P w = .ok (.tuple #[]) w' ∧ MapAt w' r (delL k l) ∧ w.grownBy w' (some r) := by
  obtain ⟨⟨es, clock, hh, he⟩, hn⟩ := h
  have hlt : r < w.heap.size := (Array.getElem?_eq_some_iff.1 hh).1
  have hlen : es.size = l.length := by have := congrArg List.length he; simpa using this
  cases hq : findL k l 0 with
  | none =>
    obtain ⟨_, hp⟩ := findL_none (v' := undef) hq
    refine ⟨{ w with heap := w.heap.setIfInBounds r (.map es clock) }, ?_, ⟨⟨es, clock, by simp [hlt], by rw [hp]; exact he⟩, nodup_del hn⟩, grownBy_set _ _ _⟩
    simp [Builtin.delete_, run_underlying ht, run_getObj_map hh, run_checkKey_L hk, run_findKey_L hk he, hq, run_setObj_map _ hh]
  | some x =>
    obtain ⟨j, u⟩ := x
    have hp := findL_del hq
    have hj := findL_ge hq
    rw [Nat.sub_zero] at hp hj
    refine ⟨{ w with heap := w.heap.setIfInBounds r (.map (es.eraseIdxIfInBounds j) clock) }, ?_, ⟨⟨es.eraseIdxIfInBounds j, clock, by simp [hlt], ?_⟩, nodup_del hn⟩, grownBy_set _ _ _⟩
    · simp [Builtin.delete_, run_underlying ht, run_getObj_map hh, run_checkKey_L hk, run_findKey_L hk he, hq, run_setObj_map _ hh]
    · rw [hp]
      have : j < es.size := by omega
      simp only [Array.eraseIdxIfInBounds, this, dif_pos, Array.toList_eraseIdx]
      rw [map_eraseIdx', map_eraseIdx', he]
end

theorem MapAt.new (w : World) : MapAt (w.alloc (.map #[] 0)) w.heap.size [] := ⟨⟨#[], 0, heap_alloc_new w _, rfl⟩, by simp⟩
theorem MapAt.kept {w w' : World} {r : Nat} {l : List (Int × Value)} {row : Option Nat} (h : MapAt w r l) (hg : w.grownBy w' row) (hne : some r ≠ row) : MapAt w' r l := by
  obtain ⟨⟨es, clock, hh, he⟩, hn⟩ := h
  exact ⟨⟨es, clock, (hg.block r (Array.getElem?_eq_some_iff.1 hh).1 hne).trans hh, he⟩, hn⟩
theorem MapAt.lt {w : World} {r : Nat} {l : List (Int × Value)} (h : MapAt w r l) : r < w.heap.size := by
  obtain ⟨⟨es, clock, hh, he⟩, hn⟩ := h
  exact (Array.getElem?_eq_some_iff.1 hh).1
theorem MapAt.below {w w' : World} {r : Nat} {l : List (Int × Value)} (h : MapAt w r l) (hb : Below w.heap.size w w') : MapAt w' r l := by
  have hlt := h.lt
  obtain ⟨⟨es, clock, hh, he⟩, hn⟩ := h
  exact ⟨⟨es, clock, (hb.block r hlt).trans hh, he⟩, hn⟩
theorem MapAt.alloc {w : World} {r : Nat} {l : List (Int × Value)} (h : MapAt w r l) (o : Obj) : MapAt (w.alloc o) r l := h.below ((Below.refl _ _).alloc (Nat.le_refl _) _)

/-- For the walk: a lookup, a store, a delete. -/
theorem wpList_lookup_L {P : Program} {w : World} {ops : Array Oper} {rest : List Oper} {o : Oper} {ac : Act} {Q : Exit → Act → World → Prop} (hgd : o.guard = none) (m x : Operand) (t : TypeId) (c : Bool) (hop : o.op = Op.lookup t m x c)
    (kt et : TypeId) (ht : P.underlying t = some (.map kt et)) (hk : P.underlying kt = some (.int .i64)) {z : Value} (hz : ∀ w, (zeroValue et).run P w = .ok z w) {r : Nat} {l : List (Int × Value)} (hm : ac.eval m = .map (some r)) (h : MapAt w r l) {k : Int} (hx : ac.eval x = .int .i64 k)
    (hK : wpList P ops Q rest (ac.put o.dst (if c then .tuple #[(lookL k l).getD z, .bool (lookL k l).isSome] else (lookL k l).getD z)) w) : wpList P ops Q (o :: rest) ac w := by
  refine wpList_plain hgd fun K hK' => ?_
  have hr := h.lookup ht hk hz k c
  unfold Oper.wp
  simp only [execOp, hop, hm, hx, Sem.run_bind, hr, Result.andThen_ok, Sem.run_pure, Oper.upon]
  exact hK' _ _ hK

theorem wpList_update_L {P : Program} {w : World} {ops : Array Oper} {rest : List Oper} {o : Oper} {ac : Act} {Q : Exit → Act → World → Prop} (hgd : o.guard = none) (m x v : Operand) (t : TypeId) (hop : o.op = Op.mapUpdate t m x v)
    (kt et : TypeId) (ht : P.underlying t = some (.map kt et)) (hk : P.underlying kt = some (.int .i64)) {r : Nat} {l : List (Int × Value)} (hm : ac.eval m = .map (some r)) (h : MapAt w r l) {k : Int} (hx : ac.eval x = .int .i64 k)
    (hK : ∀ w', MapAt w' r (putL k (ac.eval v) l) → w.grownBy w' (some r) → wpList P ops Q rest (ac.put o.dst undef) w') : wpList P ops Q (o :: rest) ac w := by
  refine wpList_plain hgd fun K hK' => ?_
  obtain ⟨w', hr, h1, h2⟩ := h.update (P := P) ht hk k (ac.eval v)
  unfold Oper.wp
  simp [execOp, hop, hm, hx, hr, Result.andThen]
  exact hK' _ _ (hK w' h1 h2)

theorem wpList_delete_L {P : Program} {w : World} {ops : Array Oper} {rest : List Oper} {o : Oper} {ac : Act} {Q : Exit → Act → World → Prop} (hgd : o.guard = none) (m x : Operand) (t kt et : TypeId) (hop : o.op = Op.call { callee := Callee.builtin Builtin.delete, args := #[m, x], argTypes := #[t, kt] })
    (ht : P.underlying t = some (.map kt et)) (hk : P.underlying kt = some (.int .i64)) {r : Nat} {l : List (Int × Value)} (hm : ac.eval m = .map (some r)) (h : MapAt w r l) {k : Int} (hx : ac.eval x = .int .i64 k)
    (hK : ∀ w', MapAt w' r (delL k l) → w.grownBy w' (some r) → wpList P ops Q rest (ac.put o.dst (.tuple #[])) w') : wpList P ops Q (o :: rest) ac w := by
  refine wpList_plain hgd fun K hK' => ?_
  obtain ⟨w', hr, h1, h2⟩ := h.delete (P := P) (ty := o.type) ht hk k
  unfold Oper.wp
  simp [execOp, hop, resolve, invoke, builtin, hm, hx, hr, Result.andThen]
  exact hK' _ _ (hK w' h1 h2)

end Go.Proofs.YtofpdhkdnbnobaaGreatDoor
