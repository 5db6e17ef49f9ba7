/-
  What reflectlite answers for errors.As (runs). Not a statement of the seat.
-/
import Derived.Test.YtbldidiibkcelaaGreatDoorPSlices
import Derived.LaidEql
import Derived.Stop.Asserts
import Derived.RowKitTokens
namespace Go.Proofs.YtbldidiibkcelaaGreatDoor
open Go.RowKit Go.Extern.Stop Go.Stop Go.Extern

abbrev hdl (T : Nat) : Value := .pointer (some ⟨7, T, none⟩)
abbrev rty (T : Nat) : Value := .iface 192 (.agg #[hdl T])
abbrev rva (T : Nat) (a : Addr) (fl : Int) : Value := .agg #[hdl T, .pointer (some a), .int .u64 fl]
theorem up101 (x y : Value) (w : World) : (ReflectliteValue.unpack (.iface 101 (.agg #[x, y]))).run Tryz.prog w = .ok (rva 101 ⟨w.heap.size, 0, none⟩ 153) (w.alloc (.cells #[x, y] 101)) := by kernel_rfl
theorem to101 (v : Value) (w : World) : (ReflectliteType.typeOf #[.iface 101 v]).run Tryz.prog w = .ok (rty 101) w := by kernel_rfl
theorem up89 (a : Option Addr) (w : World) : (ReflectliteValue.unpack (.iface 89 (.pointer a))).run Tryz.prog w = .ok (rva 89 ⟨w.heap.size, 0, none⟩ 150) (w.alloc (.cells #[.pointer a] 89)) := by kernel_rfl
theorem to89 (v : Value) (w : World) : (ReflectliteType.typeOf #[.iface 89 v]).run Tryz.prog w = .ok (rty 89) w := by kernel_rfl
theorem up102 (a : Option Addr) (w : World) : (ReflectliteValue.unpack (.iface 102 (.pointer a))).run Tryz.prog w = .ok (rva 102 ⟨w.heap.size, 0, none⟩ 150) (w.alloc (.cells #[.pointer a] 102)) := by kernel_rfl
theorem to102 (v : Value) (w : World) : (ReflectliteType.typeOf #[.iface 102 v]).run Tryz.prog w = .ok (rty 102) w := by kernel_rfl
theorem up103 (a : Option Addr) (w : World) : (ReflectliteValue.unpack (.iface 103 (.pointer a))).run Tryz.prog w = .ok (rva 103 ⟨w.heap.size, 0, none⟩ 150) (w.alloc (.cells #[.pointer a] 103)) := by kernel_rfl
theorem to103 (v : Value) (w : World) : (ReflectliteType.typeOf #[.iface 103 v]).run Tryz.prog w = .ok (rty 103) w := by kernel_rfl
theorem up106 (x : Value) (w : World) : (ReflectliteValue.unpack (.iface 106 (.agg #[x]))).run Tryz.prog w = .ok (rva 106 ⟨w.heap.size, 0, none⟩ 153) (w.alloc (.cells #[x] 106)) := by kernel_rfl
theorem to106 (v : Value) (w : World) : (ReflectliteType.typeOf #[.iface 106 v]).run Tryz.prog w = .ok (rty 106) w := by kernel_rfl
theorem up107 (a : Option Addr) (n k : Nat) (w : World) : (ReflectliteValue.unpack (.iface 107 (.slice a n k))).run Tryz.prog w = .ok (rva 107 ⟨w.heap.size, 0, none⟩ 151) (w.alloc (.cells #[.slice a n k] 107)) := by kernel_rfl
theorem to107 (v : Value) (w : World) : (ReflectliteType.typeOf #[.iface 107 v]).run Tryz.prog w = .ok (rty 107) w := by kernel_rfl
theorem up108 (a : Option Addr) (w : World) : (ReflectliteValue.unpack (.iface 108 (.pointer a))).run Tryz.prog w = .ok (rva 108 ⟨w.heap.size, 0, none⟩ 150) (w.alloc (.cells #[.pointer a] 108)) := by kernel_rfl
theorem to108 (v : Value) (w : World) : (ReflectliteType.typeOf #[.iface 108 v]).run Tryz.prog w = .ok (rty 108) w := by kernel_rfl
theorem up109 (a : Option Addr) (w : World) : (ReflectliteValue.unpack (.iface 109 (.pointer a))).run Tryz.prog w = .ok (rva 109 ⟨w.heap.size, 0, none⟩ 150) (w.alloc (.cells #[.pointer a] 109)) := by kernel_rfl
theorem to109 (v : Value) (w : World) : (ReflectliteType.typeOf #[.iface 109 v]).run Tryz.prog w = .ok (rty 109) w := by kernel_rfl
theorem up110 (x y : Value) (w : World) : (ReflectliteValue.unpack (.iface 110 (.agg #[x, y]))).run Tryz.prog w = .ok (rva 110 ⟨w.heap.size, 0, none⟩ 153) (w.alloc (.cells #[x, y] 110)) := by kernel_rfl
theorem to110 (v : Value) (w : World) : (ReflectliteType.typeOf #[.iface 110 v]).run Tryz.prog w = .ok (rty 110) w := by kernel_rfl
theorem pu101 (t : Addr) (w : World) : (ReflectliteValue.unpack (.iface 165 (.pointer (some t)))).run Tryz.prog w = .ok (rva 165 ⟨w.heap.size, 0, none⟩ 150) (w.alloc (.cells #[.pointer (some t)] 165)) := by kernel_rfl
theorem pt101 (a : Addr) (w : World) : (ReflectliteValue.methodAny (ReflectliteValue.valueError "reflectlite.Value.Type" 0) (fun t _ _ _ => ReflectliteType.toType t) #[rva 165 a 150]).run Tryz.prog w = .ok (rty 165) w := by kernel_rfl
theorem pk101 (w : World) : ((ReflectliteType.abiMethod fun t => (fun a : Nat => Value.int IntKind.u8 (a : Int)) <$> Rtype.kind t) #[hdl 165]).run Tryz.prog w = .ok (.int .u8 22) w := by kernel_rfl
theorem tk101 (w : World) : ((ReflectliteType.abiMethod fun t => (fun a : Nat => Value.int IntKind.u8 (a : Int)) <$> Rtype.kind t) #[hdl 101]).run Tryz.prog w = .ok (.int .u8 25) w := by kernel_rfl
theorem te101 (w : World) : (ReflectliteType.method ReflectliteType.elem #[.agg #[hdl 165]]).run Tryz.prog w = .ok (rty 101) w := by kernel_rfl
theorem ti101 (w : World) : (ReflectliteType.relation "Implements" ReflectliteType.implements_ #[.agg #[hdl 101], rty 68]).run Tryz.prog w = .ok (.bool true) w := by kernel_rfl
theorem pu89 (t : Addr) (w : World) : (ReflectliteValue.unpack (.iface 166 (.pointer (some t)))).run Tryz.prog w = .ok (rva 166 ⟨w.heap.size, 0, none⟩ 150) (w.alloc (.cells #[.pointer (some t)] 166)) := by kernel_rfl
theorem pt89 (a : Addr) (w : World) : (ReflectliteValue.methodAny (ReflectliteValue.valueError "reflectlite.Value.Type" 0) (fun t _ _ _ => ReflectliteType.toType t) #[rva 166 a 150]).run Tryz.prog w = .ok (rty 166) w := by kernel_rfl
theorem pk89 (w : World) : ((ReflectliteType.abiMethod fun t => (fun a : Nat => Value.int IntKind.u8 (a : Int)) <$> Rtype.kind t) #[hdl 166]).run Tryz.prog w = .ok (.int .u8 22) w := by kernel_rfl
theorem tk89 (w : World) : ((ReflectliteType.abiMethod fun t => (fun a : Nat => Value.int IntKind.u8 (a : Int)) <$> Rtype.kind t) #[hdl 89]).run Tryz.prog w = .ok (.int .u8 22) w := by kernel_rfl
theorem te89 (w : World) : (ReflectliteType.method ReflectliteType.elem #[.agg #[hdl 166]]).run Tryz.prog w = .ok (rty 89) w := by kernel_rfl
theorem ti89 (w : World) : (ReflectliteType.relation "Implements" ReflectliteType.implements_ #[.agg #[hdl 89], rty 68]).run Tryz.prog w = .ok (.bool true) w := by kernel_rfl
theorem pu102 (t : Addr) (w : World) : (ReflectliteValue.unpack (.iface 167 (.pointer (some t)))).run Tryz.prog w = .ok (rva 167 ⟨w.heap.size, 0, none⟩ 150) (w.alloc (.cells #[.pointer (some t)] 167)) := by kernel_rfl
theorem pt102 (a : Addr) (w : World) : (ReflectliteValue.methodAny (ReflectliteValue.valueError "reflectlite.Value.Type" 0) (fun t _ _ _ => ReflectliteType.toType t) #[rva 167 a 150]).run Tryz.prog w = .ok (rty 167) w := by kernel_rfl
theorem pk102 (w : World) : ((ReflectliteType.abiMethod fun t => (fun a : Nat => Value.int IntKind.u8 (a : Int)) <$> Rtype.kind t) #[hdl 167]).run Tryz.prog w = .ok (.int .u8 22) w := by kernel_rfl
theorem tk102 (w : World) : ((ReflectliteType.abiMethod fun t => (fun a : Nat => Value.int IntKind.u8 (a : Int)) <$> Rtype.kind t) #[hdl 102]).run Tryz.prog w = .ok (.int .u8 22) w := by kernel_rfl
theorem te102 (w : World) : (ReflectliteType.method ReflectliteType.elem #[.agg #[hdl 167]]).run Tryz.prog w = .ok (rty 102) w := by kernel_rfl
theorem ti102 (w : World) : (ReflectliteType.relation "Implements" ReflectliteType.implements_ #[.agg #[hdl 102], rty 68]).run Tryz.prog w = .ok (.bool true) w := by kernel_rfl
theorem pu103 (t : Addr) (w : World) : (ReflectliteValue.unpack (.iface 168 (.pointer (some t)))).run Tryz.prog w = .ok (rva 168 ⟨w.heap.size, 0, none⟩ 150) (w.alloc (.cells #[.pointer (some t)] 168)) := by kernel_rfl
theorem pt103 (a : Addr) (w : World) : (ReflectliteValue.methodAny (ReflectliteValue.valueError "reflectlite.Value.Type" 0) (fun t _ _ _ => ReflectliteType.toType t) #[rva 168 a 150]).run Tryz.prog w = .ok (rty 168) w := by kernel_rfl
theorem pk103 (w : World) : ((ReflectliteType.abiMethod fun t => (fun a : Nat => Value.int IntKind.u8 (a : Int)) <$> Rtype.kind t) #[hdl 168]).run Tryz.prog w = .ok (.int .u8 22) w := by kernel_rfl
theorem tk103 (w : World) : ((ReflectliteType.abiMethod fun t => (fun a : Nat => Value.int IntKind.u8 (a : Int)) <$> Rtype.kind t) #[hdl 103]).run Tryz.prog w = .ok (.int .u8 22) w := by kernel_rfl
theorem te103 (w : World) : (ReflectliteType.method ReflectliteType.elem #[.agg #[hdl 168]]).run Tryz.prog w = .ok (rty 103) w := by kernel_rfl
theorem ti103 (w : World) : (ReflectliteType.relation "Implements" ReflectliteType.implements_ #[.agg #[hdl 103], rty 68]).run Tryz.prog w = .ok (.bool true) w := by kernel_rfl
theorem pu106 (t : Addr) (w : World) : (ReflectliteValue.unpack (.iface 169 (.pointer (some t)))).run Tryz.prog w = .ok (rva 169 ⟨w.heap.size, 0, none⟩ 150) (w.alloc (.cells #[.pointer (some t)] 169)) := by kernel_rfl
theorem pt106 (a : Addr) (w : World) : (ReflectliteValue.methodAny (ReflectliteValue.valueError "reflectlite.Value.Type" 0) (fun t _ _ _ => ReflectliteType.toType t) #[rva 169 a 150]).run Tryz.prog w = .ok (rty 169) w := by kernel_rfl
theorem pk106 (w : World) : ((ReflectliteType.abiMethod fun t => (fun a : Nat => Value.int IntKind.u8 (a : Int)) <$> Rtype.kind t) #[hdl 169]).run Tryz.prog w = .ok (.int .u8 22) w := by kernel_rfl
theorem tk106 (w : World) : ((ReflectliteType.abiMethod fun t => (fun a : Nat => Value.int IntKind.u8 (a : Int)) <$> Rtype.kind t) #[hdl 106]).run Tryz.prog w = .ok (.int .u8 25) w := by kernel_rfl
theorem te106 (w : World) : (ReflectliteType.method ReflectliteType.elem #[.agg #[hdl 169]]).run Tryz.prog w = .ok (rty 106) w := by kernel_rfl
theorem ti106 (w : World) : (ReflectliteType.relation "Implements" ReflectliteType.implements_ #[.agg #[hdl 106], rty 68]).run Tryz.prog w = .ok (.bool true) w := by kernel_rfl
theorem pu107 (t : Addr) (w : World) : (ReflectliteValue.unpack (.iface 170 (.pointer (some t)))).run Tryz.prog w = .ok (rva 170 ⟨w.heap.size, 0, none⟩ 150) (w.alloc (.cells #[.pointer (some t)] 170)) := by kernel_rfl
theorem pt107 (a : Addr) (w : World) : (ReflectliteValue.methodAny (ReflectliteValue.valueError "reflectlite.Value.Type" 0) (fun t _ _ _ => ReflectliteType.toType t) #[rva 170 a 150]).run Tryz.prog w = .ok (rty 170) w := by kernel_rfl
theorem pk107 (w : World) : ((ReflectliteType.abiMethod fun t => (fun a : Nat => Value.int IntKind.u8 (a : Int)) <$> Rtype.kind t) #[hdl 170]).run Tryz.prog w = .ok (.int .u8 22) w := by kernel_rfl
theorem tk107 (w : World) : ((ReflectliteType.abiMethod fun t => (fun a : Nat => Value.int IntKind.u8 (a : Int)) <$> Rtype.kind t) #[hdl 107]).run Tryz.prog w = .ok (.int .u8 23) w := by kernel_rfl
theorem te107 (w : World) : (ReflectliteType.method ReflectliteType.elem #[.agg #[hdl 170]]).run Tryz.prog w = .ok (rty 107) w := by kernel_rfl
theorem ti107 (w : World) : (ReflectliteType.relation "Implements" ReflectliteType.implements_ #[.agg #[hdl 107], rty 68]).run Tryz.prog w = .ok (.bool true) w := by kernel_rfl
theorem pu108 (t : Addr) (w : World) : (ReflectliteValue.unpack (.iface 171 (.pointer (some t)))).run Tryz.prog w = .ok (rva 171 ⟨w.heap.size, 0, none⟩ 150) (w.alloc (.cells #[.pointer (some t)] 171)) := by kernel_rfl
theorem pt108 (a : Addr) (w : World) : (ReflectliteValue.methodAny (ReflectliteValue.valueError "reflectlite.Value.Type" 0) (fun t _ _ _ => ReflectliteType.toType t) #[rva 171 a 150]).run Tryz.prog w = .ok (rty 171) w := by kernel_rfl
theorem pk108 (w : World) : ((ReflectliteType.abiMethod fun t => (fun a : Nat => Value.int IntKind.u8 (a : Int)) <$> Rtype.kind t) #[hdl 171]).run Tryz.prog w = .ok (.int .u8 22) w := by kernel_rfl
theorem tk108 (w : World) : ((ReflectliteType.abiMethod fun t => (fun a : Nat => Value.int IntKind.u8 (a : Int)) <$> Rtype.kind t) #[hdl 108]).run Tryz.prog w = .ok (.int .u8 22) w := by kernel_rfl
theorem te108 (w : World) : (ReflectliteType.method ReflectliteType.elem #[.agg #[hdl 171]]).run Tryz.prog w = .ok (rty 108) w := by kernel_rfl
theorem ti108 (w : World) : (ReflectliteType.relation "Implements" ReflectliteType.implements_ #[.agg #[hdl 108], rty 68]).run Tryz.prog w = .ok (.bool true) w := by kernel_rfl
theorem pu109 (t : Addr) (w : World) : (ReflectliteValue.unpack (.iface 172 (.pointer (some t)))).run Tryz.prog w = .ok (rva 172 ⟨w.heap.size, 0, none⟩ 150) (w.alloc (.cells #[.pointer (some t)] 172)) := by kernel_rfl
theorem pt109 (a : Addr) (w : World) : (ReflectliteValue.methodAny (ReflectliteValue.valueError "reflectlite.Value.Type" 0) (fun t _ _ _ => ReflectliteType.toType t) #[rva 172 a 150]).run Tryz.prog w = .ok (rty 172) w := by kernel_rfl
theorem pk109 (w : World) : ((ReflectliteType.abiMethod fun t => (fun a : Nat => Value.int IntKind.u8 (a : Int)) <$> Rtype.kind t) #[hdl 172]).run Tryz.prog w = .ok (.int .u8 22) w := by kernel_rfl
theorem tk109 (w : World) : ((ReflectliteType.abiMethod fun t => (fun a : Nat => Value.int IntKind.u8 (a : Int)) <$> Rtype.kind t) #[hdl 109]).run Tryz.prog w = .ok (.int .u8 22) w := by kernel_rfl
theorem te109 (w : World) : (ReflectliteType.method ReflectliteType.elem #[.agg #[hdl 172]]).run Tryz.prog w = .ok (rty 109) w := by kernel_rfl
theorem ti109 (w : World) : (ReflectliteType.relation "Implements" ReflectliteType.implements_ #[.agg #[hdl 109], rty 68]).run Tryz.prog w = .ok (.bool true) w := by kernel_rfl
theorem pu110 (t : Addr) (w : World) : (ReflectliteValue.unpack (.iface 173 (.pointer (some t)))).run Tryz.prog w = .ok (rva 173 ⟨w.heap.size, 0, none⟩ 150) (w.alloc (.cells #[.pointer (some t)] 173)) := by kernel_rfl
theorem pt110 (a : Addr) (w : World) : (ReflectliteValue.methodAny (ReflectliteValue.valueError "reflectlite.Value.Type" 0) (fun t _ _ _ => ReflectliteType.toType t) #[rva 173 a 150]).run Tryz.prog w = .ok (rty 173) w := by kernel_rfl
theorem pk110 (w : World) : ((ReflectliteType.abiMethod fun t => (fun a : Nat => Value.int IntKind.u8 (a : Int)) <$> Rtype.kind t) #[hdl 173]).run Tryz.prog w = .ok (.int .u8 22) w := by kernel_rfl
theorem tk110 (w : World) : ((ReflectliteType.abiMethod fun t => (fun a : Nat => Value.int IntKind.u8 (a : Int)) <$> Rtype.kind t) #[hdl 110]).run Tryz.prog w = .ok (.int .u8 25) w := by kernel_rfl
theorem te110 (w : World) : (ReflectliteType.method ReflectliteType.elem #[.agg #[hdl 173]]).run Tryz.prog w = .ok (rty 110) w := by kernel_rfl
theorem ti110 (w : World) : (ReflectliteType.relation "Implements" ReflectliteType.implements_ #[.agg #[hdl 110], rty 68]).run Tryz.prog w = .ok (.bool true) w := by kernel_rfl
theorem mKind (h : Value) (w : World) : (Go.method 389 192 (.agg #[h]) "Kind").run Tryz.prog w = .ok (137, h) w := by kernel_rfl
theorem mElem (h : Value) (w : World) : (Go.method 389 192 (.agg #[h]) "Elem").run Tryz.prog w = .ok (205, .agg #[h]) w := by kernel_rfl
theorem mImpl (h : Value) (w : World) : (Go.method 389 192 (.agg #[h]) "Implements").run Tryz.prog w = .ok (206, .agg #[h]) w := by kernel_rfl
theorem mAsg (h : Value) (w : World) : (Go.method 389 192 (.agg #[h]) "AssignableTo").run Tryz.prog w = .ok (203, .agg #[h]) w := by kernel_rfl
end Go.Proofs.YtbldidiibkcelaaGreatDoor

/-
  AssignableTo, Elem and Set as errors.As asks them (runs). Not a statement of the seat.
-/
namespace Go.Proofs.YtbldidiibkcelaaGreatDoor
open Go.RowKit Go.Extern.Stop Go.Stop Go.Extern

def tg : TypeDesc → Nat
  | .named _ u => u + 100
  | .pointer _ => 0
  | .interface _ => 1
  | .struct _ => 3
  | .slice _ => 4
  | _ => 2
theorem tg_named {d : TypeDesc} {u : Nat} (h : tg d = u + 100) : ∃ s, d = .named s u := by
  cases d with
  | named s v => exact ⟨s, by rw [show v = u by simp [tg] at h; exact h]⟩
  | _ => simp [tg] at h <;> omega
theorem info_tg {t n : Nat} (h : (Tryz.prog.info? t).map (fun i => tg i.desc) = some n) : ∃ i, Tryz.prog.info? t = some i ∧ tg i.desc = n := Option.map_eq_some_iff.1 h
/-- a type of its own: a name or a pointer, over what is no interface; its methods are the program's -/
def TyO (t u n : Nat) (nm : Bool) : Prop := (∀ w, (ReflectliteType.ofRtype (.agg #[hdl t])).run Tryz.prog w = .ok t w) ∧ (∀ s w, (Rtype.noPackMethods s t).run Tryz.prog w = .ok () w) ∧
  (∀ w, (Rtype.hasName t).run Tryz.prog w = .ok nm w) ∧ ∃ i, (∀ w, (Rtype.under t).run Tryz.prog w = .ok (u, i) w) ∧ tg i.desc = n
theorem tyo_named {t u n : Nat} (h1 : ∀ w, (ReflectliteType.ofRtype (.agg #[hdl t])).run Tryz.prog w = .ok t w) (h2 : ∀ s w, (Rtype.noPackMethods s t).run Tryz.prog w = .ok () w) (h3 : (Tryz.prog.info? t).map (fun i => tg i.desc) = some (u + 100)) (h4 : (Tryz.prog.info? u).map (fun i => tg i.desc) = some n) : TyO t u n true := by
  obtain ⟨i, hi, hg⟩ := info_tg h3
  obtain ⟨s, hs⟩ := tg_named hg
  obtain ⟨j, hj, hg2⟩ := info_tg h4
  exact ⟨h1, h2, fun w => by simp [Rtype.hasName, typeInfo, hi, hs, Result.andThen], j, fun w => by simp [Rtype.under, typeInfo, hi, hs, hj, Result.andThen], hg2⟩
theorem tyo_ptr {t : Nat} (h1 : ∀ w, (ReflectliteType.ofRtype (.agg #[hdl t])).run Tryz.prog w = .ok t w) (h2 : ∀ s w, (Rtype.noPackMethods s t).run Tryz.prog w = .ok () w) (h3 : (Tryz.prog.info? t).map (fun i => tg i.desc) = some 0) : TyO t t 0 false := by
  obtain ⟨i, hi, hg⟩ := info_tg h3
  cases hd : i.desc with
  | pointer e => exact ⟨h1, h2, fun w => by simp [Rtype.hasName, typeInfo, hi, hd, Result.andThen], i, fun w => by simp [Rtype.under, typeInfo, hi, hd, Result.andThen], hg⟩
  | named s v => rw [hd] at hg; simp [tg] at hg
  | _ => rw [hd] at hg; simp [tg] at hg
theorem rel_run {t v : Nat} {f : TypeId → TypeId → Sem Bool} {b : Bool} {s : String} {w : World} (h1 : (ReflectliteType.ofRtype (.agg #[hdl t])).run Tryz.prog w = .ok t w) (h2 : (ReflectliteType.ofRtype (.agg #[hdl v])).run Tryz.prog w = .ok v w) (h : (f t v).run Tryz.prog w = .ok b w) :
    (ReflectliteType.relation s f #[.agg #[hdl v], rty t]).run Tryz.prog w = .ok (.bool b) w := by
  show (do pure (Value.bool (← f (← ReflectliteType.ofRtype (.agg #[hdl t])) (← ReflectliteType.ofRtype (.agg #[hdl v]))))).run Tryz.prog w = _
  simp [h1, h2, h, Result.andThen]
theorem imp_no {t u n v u2 n2 : Nat} {m m2 : Bool} (hT : TyO t u n m) (hV : TyO v u2 n2 m2) (hn : n ≠ 1) (w : World) : (Rtype.implements t v).run Tryz.prog w = .ok false w := by
  obtain ⟨_, t2, _, i, t4, t5⟩ := hT
  obtain ⟨_, v2, _, j, v4, v5⟩ := hV
  have hi : ∀ x, i.desc ≠ .interface x := fun x e => by rw [e] at t5; exact hn t5.symm
  unfold Rtype.implements
  simp only [Sem.run_bind, v2, t2, t4, v4, Result.andThen]
  generalize i.desc = d at *
  cases d with
  | interface x => exact absurd rfl (hi x)
  | _ => simp
theorem asg_self {t u n : Nat} {m : Bool} (hT : TyO t u n m) (hn : n ≠ 1) (w : World) : (ReflectliteType.relation "AssignableTo" ReflectliteType.assignableTo #[.agg #[hdl t], rty t]).run Tryz.prog w = .ok (.bool true) w := by
  refine rel_run (hT.1 w) (hT.1 w) ?_
  have hi := imp_no hT hT hn w
  simp [ReflectliteType.assignableTo, Rtype.directlyAssignable, hi, Result.andThen]
theorem asg_no {t u n v u2 n2 : Nat} {m m2 : Bool} (hT : TyO t u n m) (hV : TyO v u2 n2 m2) (hn : n = 0 ∨ n = 3 ∨ n = 4) (hu : u ≠ u2 ∨ (m = true ∧ m2 = true)) (hne : t ≠ v) (w : World) : (ReflectliteType.relation "AssignableTo" ReflectliteType.assignableTo #[.agg #[hdl v], rty t]).run Tryz.prog w = .ok (.bool false) w := by
  refine rel_run (hT.1 w) (hV.1 w) ?_
  have hi := imp_no hT hV (by omega) w
  obtain ⟨_, t2, t3, i, t4, t5⟩ := hT
  obtain ⟨_, v2, v3, j, v4, v5⟩ := hV
  have hd : (Rtype.directlyAssignable t v).run Tryz.prog w = .ok false w := by
    unfold Rtype.directlyAssignable
    have hb : (t == v) = false := by simp [hne]
    have hu' : (m = true ∧ m2 = true) ∨ u ≠ u2 := hu.symm
    cases m <;> cases m2 <;> simp [hne, t3, v3, t4, v4, Result.andThen]
    all_goals
      have hu3 : u ≠ u2 := by simpa using hu'
      generalize i.desc = d at *
      generalize j.desc = d2 at *
      cases d with
      | chan a e => simp [tg] at t5; omega
      | _ => simp [hu3]
  simp [ReflectliteType.assignableTo, hne, t2, v2, hd, hi, Result.andThen]
theorem rlm (z : Sem Value) (f : TypeId → Addr → Nat → Nat → Sem Value) (v : Value) :
    ReflectliteValue.method z f #[v] = (do match ← ReflectliteValue.parts v with | none => z | some (t, a, fl) => f t a fl (fl % 32)) := rfl
theorem rls (v x : Value) : ReflectliteValue.set #[v, x] = (do
    let (some (dst, a, fl), some (src, b, _)) := (← ReflectliteValue.parts v, ← ReflectliteValue.parts x)
      | unsupported (.noEntry "extern/(internal/reflectlite.Value).Set.zeroValue")
    if fl / ReflectliteValue.flagAddr % 2 == 0 then unsupported (.noEntry "extern/(internal/reflectlite.Value).Set.unaddressable")
    let val ← loadVar src b
    if ← Rtype.directlyAssignable dst src then storeVar dst a val
    else if ← Rtype.implements dst src then
      if (← Rtype.kind src) == 20 then
        match val with
        | .nilIface => unsupported (.noEntry "extern/reflectlite: a nil value of one interface type handed on as a value of another")
        | _ => storeVar dst a val
      else storeVar dst a (.iface src val)
    else panicString ("reflectlite.Set: value of type " ++ (← Rtype.spelt src) ++ " is not assignable to type " ++ (← Rtype.spelt dst))
    pure (.tuple #[])) := rfl
/-- a pointer to a T, as reflectlite sees it -/
def PtO (T PT : Nat) (fl : Int) : Prop := (∀ a w, (ReflectliteValue.parts (rva PT a 150)).run Tryz.prog w = .ok (some (PT, a, 150)) w) ∧ (∀ w, (isAgg PT).run Tryz.prog w = .ok false w) ∧
  (∀ w, (Rtype.elem? PT).run Tryz.prog w = .ok (some T) w) ∧ (∀ p w, (ReflectliteValue.mk T p ReflectliteValue.flagAddr).run Tryz.prog w = .ok (rva T p fl) w)
theorem nil_run {T PT : Nat} {fl : Int} (h : PtO T PT fl) {a p : Addr} {W : World} (ha : W.cell? a = some (.pointer (some p))) :
    (ReflectliteValue.method (ReflectliteValue.valueError "reflectlite.Value.IsNil" 0) ReflectliteValue.isNil #[rva PT a 150]).run Tryz.prog W = .ok (.bool false) W := by
  rw [rlm]
  simp only [Sem.run_bind, h.1, Result.andThen]
  simp [ReflectliteValue.isNil, loadVar, h.2.1, ha, Result.andThen]
theorem elem_run {T PT : Nat} {fl : Int} (h : PtO T PT fl) {a p : Addr} {W : World} (ha : W.cell? a = some (.pointer (some p))) :
    (ReflectliteValue.method (ReflectliteValue.valueError "reflectlite.Value.Elem" 0) ReflectliteValue.elem #[rva PT a 150]).run Tryz.prog W = .ok (rva T p fl) W := by
  rw [rlm]
  simp only [Sem.run_bind, h.1, Result.andThen]
  simp [ReflectliteValue.elem, loadVar, h.2.1, ha, h.2.2.1, h.2.2.2, Result.andThen]
/-- a value of type D and one to be set -/
def VaO (T D : Nat) (fl fl2 : Int) (n1 n2 : Nat) (ag : Bool) (sz sz2 : Nat) : Prop := (∀ a w, (ReflectliteValue.parts (rva T a fl)).run Tryz.prog w = .ok (some (T, a, n1)) w) ∧ (∀ a w, (ReflectliteValue.parts (rva D a fl2)).run Tryz.prog w = .ok (some (D, a, n2)) w) ∧
  (∀ w, (isAgg D).run Tryz.prog w = .ok ag w) ∧ (∀ w, (sizeOf D).run Tryz.prog w = .ok sz w) ∧ (∀ w, (sizeOf T).run Tryz.prog w = .ok sz2 w) ∧ (n1 / ReflectliteValue.flagAddr % 2 == 0) = false
theorem set_one {T n1 n2 sz : Nat} {fl fl2 : Int} {tb b : Nat} {x old : Value} {W : World} (h : VaO T T fl fl2 n1 n2 false sz 1) (h1 : x.oneCell' = true) (hc : x.cells = #[x]) (hB : Blk W b [x]) (hT : Blk W tb [old]) :
    (ReflectliteValue.set #[rva T ⟨tb, 0, none⟩ fl, rva T ⟨b, 0, none⟩ fl2]).run Tryz.prog W = .ok (.tuple #[]) (W.setCell ⟨tb, 0, none⟩ x) := by
  obtain ⟨p1, p2, ha, _, hs, hf⟩ := h
  have hb := hB.cell 0 rfl
  have ht := hT.cell 0 rfl
  have hfr := hT.free 0 (by simp)
  rw [rls]
  simp only [Sem.run_bind, p1, p2, Result.andThen]
  simp [hf, loadVar, ha, hb, Rtype.directlyAssignable, Result.andThen, storeVar, hs, hc, storeCells, Addr.add]
  rw [run_store Tryz.prog W _ _ _ h1]
  simp [ht, hfr]
theorem set_agg1 {T n1 n2 : Nat} {fl fl2 : Int} {tb b : Nat} {x old : Value} {W : World} (h : VaO T T fl fl2 n1 n2 true 1 1) (h1 : x.oneCell' = true) (hB : Blk W b [x]) (hT : Blk W tb [old]) :
    (ReflectliteValue.set #[rva T ⟨tb, 0, none⟩ fl, rva T ⟨b, 0, none⟩ fl2]).run Tryz.prog W = .ok (.tuple #[]) (W.setCell ⟨tb, 0, none⟩ x) := by
  obtain ⟨p1, p2, ha, hs2, _, hf⟩ := h
  have hb := hB.cell 0 rfl
  have ht := hT.cell 0 rfl
  have hfr := hT.free 0 (by simp)
  rw [rls]
  simp only [Sem.run_bind, p1, p2, Result.andThen]
  simp [hf, loadVar, ha, hb, hs2, loadCells, loadCellsFrom, Rtype.directlyAssignable, Result.andThen, storeVar, Value.cells, storeCells, Addr.add]
  rw [run_store Tryz.prog W _ _ _ h1]
  simp [ht, hfr]
theorem set_agg2 {T n1 n2 : Nat} {fl fl2 : Int} {tb b : Nat} {c : Int} {t : ByteArray} {o1 o2 : Value} {W : World} (h : VaO T T fl fl2 n1 n2 true 2 2) (hB : Blk W b [.int .i64 c, .string t]) (hT : Blk W tb [o1, o2]) :
    (ReflectliteValue.set #[rva T ⟨tb, 0, none⟩ fl, rva T ⟨b, 0, none⟩ fl2]).run Tryz.prog W = .ok (.tuple #[]) ((W.setCell ⟨tb, 0, none⟩ (.int .i64 c)).setCell ⟨tb, 1, none⟩ (.string t)) := by
  obtain ⟨p1, p2, ha, hs2, _, hf⟩ := h
  have hb := hB.cell 0 rfl
  have hb1 := hB.cell 1 rfl
  have ht := hT.cell 0 rfl
  have hfr := hT.free 0 (by simp)
  have hT2 := hT.set (j := 0) (.int .i64 c)
  have ht1 := hT2.cell 1 rfl
  have hfr1 := hT2.free 1 (by simp)
  rw [rls]
  simp only [Sem.run_bind, p1, p2, Result.andThen]
  simp [hf, loadVar, ha, hb, hb1, hs2, loadCells, loadCellsFrom, Rtype.directlyAssignable, Result.andThen, storeVar, Value.cells, storeCells, Addr.add]
  rw [run_store Tryz.prog W _ _ _ rfl]
  simp [ht, hfr]
  rw [run_store Tryz.prog _ _ _ _ rfl]
  simp [ht1, hfr1]
theorem ty101 : TyO 101 100 3 true := tyo_named (fun _ => by kernel_rfl) (fun _ _ => by kernel_rfl) (by kernel_rfl) (by kernel_rfl)
theorem ty89 : TyO 89 89 0 false := tyo_ptr (fun _ => by kernel_rfl) (fun _ _ => by kernel_rfl) (by kernel_rfl)
theorem ty102 : TyO 102 102 0 false := tyo_ptr (fun _ => by kernel_rfl) (fun _ _ => by kernel_rfl) (by kernel_rfl)
theorem ty103 : TyO 103 103 0 false := tyo_ptr (fun _ => by kernel_rfl) (fun _ _ => by kernel_rfl) (by kernel_rfl)
theorem ty106 : TyO 106 105 3 true := tyo_named (fun _ => by kernel_rfl) (fun _ _ => by kernel_rfl) (by kernel_rfl) (by kernel_rfl)
theorem ty107 : TyO 107 26 4 true := tyo_named (fun _ => by kernel_rfl) (fun _ _ => by kernel_rfl) (by kernel_rfl) (by kernel_rfl)
theorem ty108 : TyO 108 108 0 false := tyo_ptr (fun _ => by kernel_rfl) (fun _ _ => by kernel_rfl) (by kernel_rfl)
theorem ty109 : TyO 109 109 0 false := tyo_ptr (fun _ => by kernel_rfl) (fun _ _ => by kernel_rfl) (by kernel_rfl)
theorem ty110 : TyO 110 100 3 true := tyo_named (fun _ => by kernel_rfl) (fun _ _ => by kernel_rfl) (by kernel_rfl) (by kernel_rfl)
end Go.Proofs.YtbldidiibkcelaaGreatDoor

