/-
  What reflectlite answers for errors.As (runs). Not a statement of the seat.
-/
import Derived.Test.YtbldidiibkcelaaGreatDoorTSlices
import Derived.LaidEql
import Derived.Stop.Asserts
import Derived.RowKitTokens
namespace Go.Proofs.YtbldidiibkcelaaGreatDoor
open Go.RowKit Go.Extern.Stop Go.Stop Go.Extern

abbrev hdl (T : Nat) : Value := .pointer (some ⟨7, T, none⟩)
abbrev rty (T : Nat) : Value := .iface 192 (.agg #[hdl T])
abbrev rva (T : Nat) (a : Addr) (fl : Int) : Value := .agg #[hdl T, .pointer (some a), .int .u64 fl]
theorem up101 (x y : Value) (w : World) : (ReflectliteValue.unpack (.iface 101 (.agg #[x, y]))).run Tryz.prog w = .ok (rva 101 ⟨w.heap.size, 0, none⟩ 153) (w.alloc (.cells #[x, y] 101)) := by kernel_rfl
theorem to101 (v : Value) (w : World) : (ReflectliteType.typeOf #[.iface 101 v]).run Tryz.prog w = .ok (rty 101) w := by kernel_rfl
theorem up89 (a : Option Addr) (w : World) : (ReflectliteValue.unpack (.iface 89 (.pointer a))).run Tryz.prog w = .ok (rva 89 ⟨w.heap.size, 0, none⟩ 150) (w.alloc (.cells #[.pointer a] 89)) := by kernel_rfl
theorem to89 (v : Value) (w : World) : (ReflectliteType.typeOf #[.iface 89 v]).run Tryz.prog w = .ok (rty 89) w := by kernel_rfl
theorem up102 (a : Option Addr) (w : World) : (ReflectliteValue.unpack (.iface 102 (.pointer a))).run Tryz.prog w = .ok (rva 102 ⟨w.heap.size, 0, none⟩ 150) (w.alloc (.cells #[.pointer a] 102)) := by kernel_rfl
theorem to102 (v : Value) (w : World) : (ReflectliteType.typeOf #[.iface 102 v]).run Tryz.prog w = .ok (rty 102) w := by kernel_rfl
theorem up103 (a : Option Addr) (w : World) : (ReflectliteValue.unpack (.iface 103 (.pointer a))).run Tryz.prog w = .ok (rva 103 ⟨w.heap.size, 0, none⟩ 150) (w.alloc (.cells #[.pointer a] 103)) := by kernel_rfl
theorem to103 (v : Value) (w : World) : (ReflectliteType.typeOf #[.iface 103 v]).run Tryz.prog w = .ok (rty 103) w := by kernel_rfl
theorem up106 (x : Value) (w : World) : (ReflectliteValue.unpack (.iface 106 (.agg #[x]))).run Tryz.prog w = .ok (rva 106 ⟨w.heap.size, 0, none⟩ 153) (w.alloc (.cells #[x] 106)) := by kernel_rfl
theorem to106 (v : Value) (w : World) : (ReflectliteType.typeOf #[.iface 106 v]).run Tryz.prog w = .ok (rty 106) w := by kernel_rfl
theorem up107 (a : Option Addr) (n k : Nat) (w : World) : (ReflectliteValue.unpack (.iface 107 (.slice a n k))).run Tryz.prog w = .ok (rva 107 ⟨w.heap.size, 0, none⟩ 151) (w.alloc (.cells #[.slice a n k] 107)) := by kernel_rfl
theorem to107 (v : Value) (w : World) : (ReflectliteType.typeOf #[.iface 107 v]).run Tryz.prog w = .ok (rty 107) w := by kernel_rfl
theorem up108 (a : Option Addr) (w : World) : (ReflectliteValue.unpack (.iface 108 (.pointer a))).run Tryz.prog w = .ok (rva 108 ⟨w.heap.size, 0, none⟩ 150) (w.alloc (.cells #[.pointer a] 108)) := by kernel_rfl
theorem to108 (v : Value) (w : World) : (ReflectliteType.typeOf #[.iface 108 v]).run Tryz.prog w = .ok (rty 108) w := by kernel_rfl
theorem up109 (a : Option Addr) (w : World) : (ReflectliteValue.unpack (.iface 109 (.pointer a))).run Tryz.prog w = .ok (rva 109 ⟨w.heap.size, 0, none⟩ 150) (w.alloc (.cells #[.pointer a] 109)) := by kernel_rfl
theorem to109 (v : Value) (w : World) : (ReflectliteType.typeOf #[.iface 109 v]).run Tryz.prog w = .ok (rty 109) w := by kernel_rfl
theorem up110 (x y : Value) (w : World) : (ReflectliteValue.unpack (.iface 110 (.agg #[x, y]))).run Tryz.prog w = .ok (rva 110 ⟨w.heap.size, 0, none⟩ 153) (w.alloc (.cells #[x, y] 110)) := by kernel_rfl
theorem to110 (v : Value) (w : World) : (ReflectliteType.typeOf #[.iface 110 v]).run Tryz.prog w = .ok (rty 110) w := by kernel_rfl
theorem pu92 (t : Addr) (w : World) : (ReflectliteValue.unpack (.iface 94 (.pointer (some t)))).run Tryz.prog w = .ok (rva 94 ⟨w.heap.size, 0, none⟩ 150) (w.alloc (.cells #[.pointer (some t)] 94)) := by kernel_rfl
theorem pt92 (a : Addr) (w : World) : (ReflectliteValue.methodAny (ReflectliteValue.valueError "reflectlite.Value.Type" 0) (fun t _ _ _ => ReflectliteType.toType t) #[rva 94 a 150]).run Tryz.prog w = .ok (rty 94) w := by kernel_rfl
theorem pk92 (w : World) : ((ReflectliteType.abiMethod fun t => (fun a : Nat => Value.int IntKind.u8 (a : Int)) <$> Rtype.kind t) #[hdl 94]).run Tryz.prog w = .ok (.int .u8 22) w := by kernel_rfl
theorem tk92 (w : World) : ((ReflectliteType.abiMethod fun t => (fun a : Nat => Value.int IntKind.u8 (a : Int)) <$> Rtype.kind t) #[hdl 92]).run Tryz.prog w = .ok (.int .u8 20) w := by kernel_rfl
theorem te92 (w : World) : (ReflectliteType.method ReflectliteType.elem #[.agg #[hdl 94]]).run Tryz.prog w = .ok (rty 92) w := by kernel_rfl
theorem pu96 (t : Addr) (w : World) : (ReflectliteValue.unpack (.iface 97 (.pointer (some t)))).run Tryz.prog w = .ok (rva 97 ⟨w.heap.size, 0, none⟩ 150) (w.alloc (.cells #[.pointer (some t)] 97)) := by kernel_rfl
theorem pt96 (a : Addr) (w : World) : (ReflectliteValue.methodAny (ReflectliteValue.valueError "reflectlite.Value.Type" 0) (fun t _ _ _ => ReflectliteType.toType t) #[rva 97 a 150]).run Tryz.prog w = .ok (rty 97) w := by kernel_rfl
theorem pk96 (w : World) : ((ReflectliteType.abiMethod fun t => (fun a : Nat => Value.int IntKind.u8 (a : Int)) <$> Rtype.kind t) #[hdl 97]).run Tryz.prog w = .ok (.int .u8 22) w := by kernel_rfl
theorem tk96 (w : World) : ((ReflectliteType.abiMethod fun t => (fun a : Nat => Value.int IntKind.u8 (a : Int)) <$> Rtype.kind t) #[hdl 96]).run Tryz.prog w = .ok (.int .u8 20) w := by kernel_rfl
theorem te96 (w : World) : (ReflectliteType.method ReflectliteType.elem #[.agg #[hdl 97]]).run Tryz.prog w = .ok (rty 96) w := by kernel_rfl
theorem mKind (h : Value) (w : World) : (Go.method 389 192 (.agg #[h]) "Kind").run Tryz.prog w = .ok (137, h) w := by kernel_rfl
theorem mElem (h : Value) (w : World) : (Go.method 389 192 (.agg #[h]) "Elem").run Tryz.prog w = .ok (205, .agg #[h]) w := by kernel_rfl
theorem mImpl (h : Value) (w : World) : (Go.method 389 192 (.agg #[h]) "Implements").run Tryz.prog w = .ok (206, .agg #[h]) w := by kernel_rfl
theorem mAsg (h : Value) (w : World) : (Go.method 389 192 (.agg #[h]) "AssignableTo").run Tryz.prog w = .ok (203, .agg #[h]) w := by kernel_rfl
end Go.Proofs.YtbldidiibkcelaaGreatDoor

/-
  AssignableTo, Elem and Set as errors.As asks them (runs). Not a statement of the seat.
-/
namespace Go.Proofs.YtbldidiibkcelaaGreatDoor
open Go.RowKit Go.Extern.Stop Go.Stop Go.Extern

def tg : TypeDesc → Nat
  | .named _ u => u + 100
  | .pointer _ => 0
  | .interface _ => 1
  | .struct _ => 3
  | .slice _ => 4
  | _ => 2
theorem tg_named {d : TypeDesc} {u : Nat} (h : tg d = u + 100) : ∃ s, d = .named s u := by
  cases d with
  | named s v => exact ⟨s, by rw [show v = u by simp [tg] at h; exact h]⟩
  | _ => simp [tg] at h <;> omega
theorem info_tg {t n : Nat} (h : (Tryz.prog.info? t).map (fun i => tg i.desc) = some n) : ∃ i, Tryz.prog.info? t = some i ∧ tg i.desc = n := Option.map_eq_some_iff.1 h
/-- a type of its own: a name or a pointer, over what is no interface; its methods are the program's -/
def TyO (t u n : Nat) (nm : Bool) : Prop := (∀ w, (ReflectliteType.ofRtype (.agg #[hdl t])).run Tryz.prog w = .ok t w) ∧ (∀ s w, (Rtype.noPackMethods s t).run Tryz.prog w = .ok () w) ∧
  (∀ w, (Rtype.hasName t).run Tryz.prog w = .ok nm w) ∧ ∃ i, (∀ w, (Rtype.under t).run Tryz.prog w = .ok (u, i) w) ∧ tg i.desc = n
theorem tyo_named {t u n : Nat} (h1 : ∀ w, (ReflectliteType.ofRtype (.agg #[hdl t])).run Tryz.prog w = .ok t w) (h2 : ∀ s w, (Rtype.noPackMethods s t).run Tryz.prog w = .ok () w) (h3 : (Tryz.prog.info? t).map (fun i => tg i.desc) = some (u + 100)) (h4 : (Tryz.prog.info? u).map (fun i => tg i.desc) = some n) : TyO t u n true := by
  obtain ⟨i, hi, hg⟩ := info_tg h3
  obtain ⟨s, hs⟩ := tg_named hg
  obtain ⟨j, hj, hg2⟩ := info_tg h4
  exact ⟨h1, h2, fun w => by simp [Rtype.hasName, typeInfo, hi, hs, Result.andThen], j, fun w => by simp [Rtype.under, typeInfo, hi, hs, hj, Result.andThen], hg2⟩
theorem tyo_ptr {t : Nat} (h1 : ∀ w, (ReflectliteType.ofRtype (.agg #[hdl t])).run Tryz.prog w = .ok t w) (h2 : ∀ s w, (Rtype.noPackMethods s t).run Tryz.prog w = .ok () w) (h3 : (Tryz.prog.info? t).map (fun i => tg i.desc) = some 0) : TyO t t 0 false := by
  obtain ⟨i, hi, hg⟩ := info_tg h3
  cases hd : i.desc with
  | pointer e => exact ⟨h1, h2, fun w => by simp [Rtype.hasName, typeInfo, hi, hd, Result.andThen], i, fun w => by simp [Rtype.under, typeInfo, hi, hd, Result.andThen], hg⟩
  | named s v => rw [hd] at hg; simp [tg] at hg
  | _ => rw [hd] at hg; simp [tg] at hg
theorem rel_run {t v : Nat} {f : TypeId → TypeId → Sem Bool} {b : Bool} {s : String} {w : World} (h1 : (ReflectliteType.ofRtype (.agg #[hdl t])).run Tryz.prog w = .ok t w) (h2 : (ReflectliteType.ofRtype (.agg #[hdl v])).run Tryz.prog w = .ok v w) (h : (f t v).run Tryz.prog w = .ok b w) :
    (ReflectliteType.relation s f #[.agg #[hdl v], rty t]).run Tryz.prog w = .ok (.bool b) w := by
  show (do pure (Value.bool (← f (← ReflectliteType.ofRtype (.agg #[hdl t])) (← ReflectliteType.ofRtype (.agg #[hdl v]))))).run Tryz.prog w = _
  simp [h1, h2, h, Result.andThen]
/-- an interface type: what it wants -/
def TyI (t u : Nat) (want : Array (String × TypeId)) : Prop := (∀ w, (ReflectliteType.ofRtype (.agg #[hdl t])).run Tryz.prog w = .ok t w) ∧ (∀ s w, (Rtype.noPackMethods s t).run Tryz.prog w = .ok () w) ∧
  (∀ w, (Rtype.hasName t).run Tryz.prog w = .ok true w) ∧ ∃ i, (∀ w, (Rtype.under t).run Tryz.prog w = .ok (u, i) w) ∧ i.desc = .interface want
theorem tyi {t u : Nat} {want : Array (String × TypeId)} (h1 : ∀ w, (ReflectliteType.ofRtype (.agg #[hdl t])).run Tryz.prog w = .ok t w) (h2 : ∀ s w, (Rtype.noPackMethods s t).run Tryz.prog w = .ok () w) (h3 : (Tryz.prog.info? t).map (fun i => tg i.desc) = some (u + 100)) (h4 : (Tryz.prog.info? u).map (fun i => i.desc) = some (.interface want)) : TyI t u want := by
  obtain ⟨i, hi, hg⟩ := info_tg h3
  obtain ⟨s, hs⟩ := tg_named hg
  obtain ⟨j, hj, hg2⟩ := Option.map_eq_some_iff.1 h4
  exact ⟨h1, h2, fun w => by simp [Rtype.hasName, typeInfo, hi, hs, Result.andThen], j, fun w => by simp [Rtype.under, typeInfo, hi, hs, hj, Result.andThen], hg2⟩
theorem imp_if {t u v u2 n2 : Nat} {want : Array (String × TypeId)} {m2 : Bool} {b : Bool} (hT : TyI t u want) (hV : TyO v u2 n2 m2) (hn : n2 ≠ 1) (hl : (Tryz.prog.info? v).map (fun i => (lacking want i.methods).isEmpty) = some b) (w : World) : (Rtype.implements t v).run Tryz.prog w = .ok b w := by
  obtain ⟨_, t2, _, i, t4, t5⟩ := hT
  obtain ⟨_, v2, _, j, v4, v5⟩ := hV
  obtain ⟨k, hk, hb⟩ := Option.map_eq_some_iff.1 hl
  have hj : ∀ x, j.desc ≠ .interface x := fun x e => by rw [e] at v5; exact hn v5.symm
  unfold Rtype.implements
  simp only [Sem.run_bind, v2, t2, t4, v4, Result.andThen, t5]
  have hm : (Instr.missingMethod want k.methods).isNone = b := by
    cases b with
    | true => rw [missingMethod_none (List.isEmpty_iff.1 hb)]; rfl
    | false =>
      obtain ⟨m, hm⟩ := missingMethod_some (want := want) (got := k.methods) (fun e => by rw [e] at hb; cases hb)
      rw [hm]; rfl
  generalize j.desc = d at *
  cases d with
  | interface x => exact absurd rfl (hj x)
  | _ => simp [typeInfo, hk, hm, Result.andThen]
theorem dir_if {t u v u2 n2 : Nat} {want : Array (String × TypeId)} {m2 : Bool} (hT : TyI t u want) (hV : TyO v u2 n2 m2) (hu : u ≠ u2) (hne : t ≠ v) (w : World) : (Rtype.directlyAssignable t v).run Tryz.prog w = .ok false w := by
  obtain ⟨_, t2, t3, i, t4, t5⟩ := hT
  obtain ⟨_, v2, v3, j, v4, v5⟩ := hV
  unfold Rtype.directlyAssignable
  cases m2 <;> simp [hne, hu, t3, v3, t4, v4, t5, Result.andThen]
theorem asg_if {t u v u2 n2 : Nat} {want : Array (String × TypeId)} {m2 : Bool} {b : Bool} (hT : TyI t u want) (hV : TyO v u2 n2 m2) (hn : n2 = 0 ∨ n2 = 3 ∨ n2 = 4) (hu : u ≠ u2) (hne : t ≠ v) (hl : (Tryz.prog.info? v).map (fun i => (lacking want i.methods).isEmpty) = some b) (w : World) : (ReflectliteType.relation "AssignableTo" ReflectliteType.assignableTo #[.agg #[hdl v], rty t]).run Tryz.prog w = .ok (.bool b) w := by
  refine rel_run (hT.1 w) (hV.1 w) ?_
  have hi := imp_if hT hV (by omega) hl w
  have hd := dir_if hT hV hu hne w
  obtain ⟨_, t2, t3, i, t4, t5⟩ := hT
  obtain ⟨_, v2, v3, j, v4, v5⟩ := hV
  simp [ReflectliteType.assignableTo, hne, t2, v2, hd, hi, Result.andThen]
theorem rlm (z : Sem Value) (f : TypeId → Addr → Nat → Nat → Sem Value) (v : Value) :
    ReflectliteValue.method z f #[v] = (do match ← ReflectliteValue.parts v with | none => z | some (t, a, fl) => f t a fl (fl % 32)) := rfl
theorem rls (v x : Value) : ReflectliteValue.set #[v, x] = (do
    let (some (dst, a, fl), some (src, b, _)) := (← ReflectliteValue.parts v, ← ReflectliteValue.parts x)
      | unsupported (.noEntry "extern/(internal/reflectlite.Value).Set.zeroValue")
    if fl / ReflectliteValue.flagAddr % 2 == 0 then unsupported (.noEntry "extern/(internal/reflectlite.Value).Set.unaddressable")
    let val ← loadVar src b
    if ← Rtype.directlyAssignable dst src then storeVar dst a val
    else if ← Rtype.implements dst src then
      if (← Rtype.kind src) == 20 then
        match val with
        | .nilIface => unsupported (.noEntry "extern/reflectlite: a nil value of one interface type handed on as a value of another")
        | _ => storeVar dst a val
      else storeVar dst a (.iface src val)
    else panicString ("reflectlite.Set: value of type " ++ (← Rtype.spelt src) ++ " is not assignable to type " ++ (← Rtype.spelt dst))
    pure (.tuple #[])) := rfl
/-- a pointer to a T, as reflectlite sees it -/
def PtO (T PT : Nat) (fl : Int) : Prop := (∀ a w, (ReflectliteValue.parts (rva PT a 150)).run Tryz.prog w = .ok (some (PT, a, 150)) w) ∧ (∀ w, (isAgg PT).run Tryz.prog w = .ok false w) ∧
  (∀ w, (Rtype.elem? PT).run Tryz.prog w = .ok (some T) w) ∧ (∀ p w, (ReflectliteValue.mk T p ReflectliteValue.flagAddr).run Tryz.prog w = .ok (rva T p fl) w)
theorem nil_run {T PT : Nat} {fl : Int} (h : PtO T PT fl) {a p : Addr} {W : World} (ha : W.cell? a = some (.pointer (some p))) :
    (ReflectliteValue.method (ReflectliteValue.valueError "reflectlite.Value.IsNil" 0) ReflectliteValue.isNil #[rva PT a 150]).run Tryz.prog W = .ok (.bool false) W := by
  rw [rlm]
  simp only [Sem.run_bind, h.1, Result.andThen]
  simp [ReflectliteValue.isNil, loadVar, h.2.1, ha, Result.andThen]
theorem elem_run {T PT : Nat} {fl : Int} (h : PtO T PT fl) {a p : Addr} {W : World} (ha : W.cell? a = some (.pointer (some p))) :
    (ReflectliteValue.method (ReflectliteValue.valueError "reflectlite.Value.Elem" 0) ReflectliteValue.elem #[rva PT a 150]).run Tryz.prog W = .ok (rva T p fl) W := by
  rw [rlm]
  simp only [Sem.run_bind, h.1, Result.andThen]
  simp [ReflectliteValue.elem, loadVar, h.2.1, ha, h.2.2.1, h.2.2.2, Result.andThen]
/-- a value of type D and one to be set -/
def VaO (T D : Nat) (fl fl2 : Int) (n1 n2 : Nat) (ag : Bool) (sz sz2 : Nat) : Prop := (∀ a w, (ReflectliteValue.parts (rva T a fl)).run Tryz.prog w = .ok (some (T, a, n1)) w) ∧ (∀ a w, (ReflectliteValue.parts (rva D a fl2)).run Tryz.prog w = .ok (some (D, a, n2)) w) ∧
  (∀ w, (isAgg D).run Tryz.prog w = .ok ag w) ∧ (∀ w, (sizeOf D).run Tryz.prog w = .ok sz w) ∧ (∀ w, (sizeOf T).run Tryz.prog w = .ok sz2 w) ∧ (n1 / ReflectliteValue.flagAddr % 2 == 0) = false
theorem set_if {T D n1 n2 u u2 n3 kd : Nat} {want : Array (String × TypeId)} {m2 : Bool} {fl fl2 : Int} {tb b : Nat} {c : Int} {t : ByteArray} {old : Value} {W : World} (h : VaO T D fl fl2 n1 n2 true 2 1) (hTI : TyI T u want) (hV : TyO D u2 n3 m2) (hn : n3 = 0 ∨ n3 = 3 ∨ n3 = 4) (hu : u ≠ u2) (hne : T ≠ D) (hk : ∀ w, (Rtype.kind D).run Tryz.prog w = .ok kd w) (hk2 : kd ≠ 20) (hl : (Tryz.prog.info? D).map (fun i => (lacking want i.methods).isEmpty) = some true) (hB : Blk W b [.int .i64 c, .string t]) (hT : Blk W tb [old]) :
    (ReflectliteValue.set #[rva T ⟨tb, 0, none⟩ fl, rva D ⟨b, 0, none⟩ fl2]).run Tryz.prog W = .ok (.tuple #[]) (W.setCell ⟨tb, 0, none⟩ (.iface D (.agg #[.int .i64 c, .string t]))) := by
  obtain ⟨p1, p2, ha, hs2, hs, hf⟩ := h
  have hi := imp_if hTI hV (by omega) hl W
  have hd := dir_if hTI hV hu hne W
  have hb := hB.cell 0 rfl
  have hb1 := hB.cell 1 rfl
  have ht := hT.cell 0 rfl
  have hfr := hT.free 0 (by simp)
  rw [rls]
  simp only [Sem.run_bind, p1, p2, Result.andThen]
  simp [hf, loadVar, ha, hb, hb1, hs2, loadCells, loadCellsFrom, hd, hi, hk, hk2, Result.andThen, storeVar, hs, Value.cells, storeCells, Addr.add]
  rw [run_store Tryz.prog W _ _ _ rfl]
  simp [ht, hfr]
theorem ty101 : TyO 101 100 3 true := tyo_named (fun _ => by kernel_rfl) (fun _ _ => by kernel_rfl) (by kernel_rfl) (by kernel_rfl)
theorem ty89 : TyO 89 89 0 false := tyo_ptr (fun _ => by kernel_rfl) (fun _ _ => by kernel_rfl) (by kernel_rfl)
theorem ty102 : TyO 102 102 0 false := tyo_ptr (fun _ => by kernel_rfl) (fun _ _ => by kernel_rfl) (by kernel_rfl)
theorem ty103 : TyO 103 103 0 false := tyo_ptr (fun _ => by kernel_rfl) (fun _ _ => by kernel_rfl) (by kernel_rfl)
theorem ty106 : TyO 106 105 3 true := tyo_named (fun _ => by kernel_rfl) (fun _ _ => by kernel_rfl) (by kernel_rfl) (by kernel_rfl)
theorem ty107 : TyO 107 26 4 true := tyo_named (fun _ => by kernel_rfl) (fun _ _ => by kernel_rfl) (by kernel_rfl) (by kernel_rfl)
theorem ty108 : TyO 108 108 0 false := tyo_ptr (fun _ => by kernel_rfl) (fun _ _ => by kernel_rfl) (by kernel_rfl)
theorem ty109 : TyO 109 109 0 false := tyo_ptr (fun _ => by kernel_rfl) (fun _ _ => by kernel_rfl) (by kernel_rfl)
theorem ty110 : TyO 110 100 3 true := tyo_named (fun _ => by kernel_rfl) (fun _ _ => by kernel_rfl) (by kernel_rfl) (by kernel_rfl)
end Go.Proofs.YtbldidiibkcelaaGreatDoor

