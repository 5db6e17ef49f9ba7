/-
  errors.As over an error value, whatever type is asked for (walk). Not a statement of the seat.
-/
import Derived.Test.YtbldidiibkcelaaGreatDoorTEAs1
import Derived.Test.YtbldidiibkcelaaGreatDoorTERAs
import Derived.RegionTactic
import Derived.ChangeAlike
namespace Go.Proofs.YtbldidiibkcelaaGreatDoor
open Go.RowKit Go.Extern.Stop Go.Stop Go.Extern

theorem asa89 (v : Value) (w : World) : (Instr.typeAssert (.iface 89 v) 68 142 true).run Tryz.prog w = .ok (.tuple #[.nilIface, .bool false]) w := run_typeAssert_lacksB Tryz.underlying142 (by kernel_rfl) (by kernel_rfl) v 68 w
theorem unm89 (v : Value) (w : World) : (Instr.typeAssert (.iface 89 v) 68 128 true).run Tryz.prog w = .ok (.tuple #[.nilIface, .bool false]) w := run_typeAssert_lacksB Tryz.underlying128 (by kernel_rfl) (by kernel_rfl) v 68 w
theorem asa101 (v : Value) (w : World) : (Instr.typeAssert (.iface 101 v) 68 142 true).run Tryz.prog w = .ok (.tuple #[.nilIface, .bool false]) w := run_typeAssert_lacksB Tryz.underlying142 (by kernel_rfl) (by kernel_rfl) v 68 w
theorem unm101 (v : Value) (w : World) : (Instr.typeAssert (.iface 101 v) 68 128 true).run Tryz.prog w = .ok (.tuple #[.nilIface, .bool false]) w := run_typeAssert_lacksB Tryz.underlying128 (by kernel_rfl) (by kernel_rfl) v 68 w
theorem asa102 (v : Value) (w : World) : (Instr.typeAssert (.iface 102 v) 68 142 true).run Tryz.prog w = .ok (.tuple #[.nilIface, .bool false]) w := run_typeAssert_lacksB Tryz.underlying142 (by kernel_rfl) (by kernel_rfl) v 68 w
theorem unm102 (v : Value) (w : World) : (Instr.typeAssert (.iface 102 v) 68 128 true).run Tryz.prog w = .ok (.tuple #[.nilIface, .bool false]) w := run_typeAssert_lacksB Tryz.underlying128 (by kernel_rfl) (by kernel_rfl) v 68 w
theorem asa103 (v : Value) (w : World) : (Instr.typeAssert (.iface 103 v) 68 142 true).run Tryz.prog w = .ok (.tuple #[.nilIface, .bool false]) w := run_typeAssert_lacksB Tryz.underlying142 (by kernel_rfl) (by kernel_rfl) v 68 w
theorem unm103 (v : Value) (w : World) : (Instr.typeAssert (.iface 103 v) 68 128 true).run Tryz.prog w = .ok (.tuple #[.iface 103 v, .bool true]) w := run_typeAssert_hasB Tryz.underlying128 (by kernel_rfl) v 68 w
theorem asa106 (v : Value) (w : World) : (Instr.typeAssert (.iface 106 v) 68 142 true).run Tryz.prog w = .ok (.tuple #[.nilIface, .bool false]) w := run_typeAssert_lacksB Tryz.underlying142 (by kernel_rfl) (by kernel_rfl) v 68 w
theorem unm106 (v : Value) (w : World) : (Instr.typeAssert (.iface 106 v) 68 128 true).run Tryz.prog w = .ok (.tuple #[.nilIface, .bool false]) w := run_typeAssert_lacksB Tryz.underlying128 (by kernel_rfl) (by kernel_rfl) v 68 w
theorem asa107 (v : Value) (w : World) : (Instr.typeAssert (.iface 107 v) 68 142 true).run Tryz.prog w = .ok (.tuple #[.nilIface, .bool false]) w := run_typeAssert_lacksB Tryz.underlying142 (by kernel_rfl) (by kernel_rfl) v 68 w
theorem unm107 (v : Value) (w : World) : (Instr.typeAssert (.iface 107 v) 68 128 true).run Tryz.prog w = .ok (.tuple #[.nilIface, .bool false]) w := run_typeAssert_lacksB Tryz.underlying128 (by kernel_rfl) (by kernel_rfl) v 68 w
theorem asa108 (v : Value) (w : World) : (Instr.typeAssert (.iface 108 v) 68 142 true).run Tryz.prog w = .ok (.tuple #[.nilIface, .bool false]) w := run_typeAssert_lacksB Tryz.underlying142 (by kernel_rfl) (by kernel_rfl) v 68 w
theorem unm108 (v : Value) (w : World) : (Instr.typeAssert (.iface 108 v) 68 128 true).run Tryz.prog w = .ok (.tuple #[.nilIface, .bool false]) w := run_typeAssert_lacksB Tryz.underlying128 (by kernel_rfl) (by kernel_rfl) v 68 w
theorem asa109 (v : Value) (w : World) : (Instr.typeAssert (.iface 109 v) 68 142 true).run Tryz.prog w = .ok (.tuple #[.iface 109 v, .bool true]) w := run_typeAssert_hasB Tryz.underlying142 (by kernel_rfl) v 68 w
theorem unm109 (v : Value) (w : World) : (Instr.typeAssert (.iface 109 v) 68 128 true).run Tryz.prog w = .ok (.tuple #[.nilIface, .bool false]) w := run_typeAssert_lacksB Tryz.underlying128 (by kernel_rfl) (by kernel_rfl) v 68 w
theorem asa110 (v : Value) (w : World) : (Instr.typeAssert (.iface 110 v) 68 142 true).run Tryz.prog w = .ok (.tuple #[.nilIface, .bool false]) w := run_typeAssert_lacksB Tryz.underlying142 (by kernel_rfl) (by kernel_rfl) v 68 w
theorem unm110 (v : Value) (w : World) : (Instr.typeAssert (.iface 110 v) 68 128 true).run Tryz.prog w = .ok (.tuple #[.nilIface, .bool false]) w := run_typeAssert_lacksB Tryz.underlying128 (by kernel_rfl) (by kernel_rfl) v 68 w
theorem m109a (v : Value) (w : World) : (method 389 109 v "As").run Tryz.prog w = .ok (191, v) w := by kernel_rfl
/-- the type of a kind's value, and its flags -/
def dyn (k : Int) : Nat := if k = 1 then 101 else if k = 2 then 89 else if k = 3 then 102 else if k = 4 then 103 else if k = 5 then 106 else if k = 6 then 107 else if k = 7 then 89 else if k = 8 then 108 else if k = 9 then 109 else 110
def dfl (k : Int) : Int := if k = 1 then 153 else if k = 5 then 153 else if k = 10 then 153 else if k = 6 then 151 else 150
/-- what a variable holds behind Set -/
def stC : Bool → Value → List Value
  | true, v => [v]
  | false, .iface _ (.agg a) => a.toList
  | false, .iface _ x => [x]
  | false, _ => []
def GVP (gv : Bool) (tb : Nat) (c : Int) (t : Bs) (W : World) (r : Ending) (W' : World) : Prop :=
  if gv = true then r = .returned (.bool true) ∧ Kept (N1 tb) W W' ∧ Blk W' tb [.int .i64 c, .string ⟨t.toArray⟩] else r = .returned (.bool false) ∧ W' = W
/-- a type that errors.As is asked for -/
structure ATy (T PT : Nat) (fl : Int) (ifc gv : Bool) (hit : Int → Bool) (old : List Value) : Prop where
  po : PtO T PT fl
  asg : ∀ k, 1 ≤ k → k ≤ 10 → ∀ w, (ReflectliteType.relation "AssignableTo" ReflectliteType.assignableTo #[.agg #[hdl (dyn k)], rty T]).run Tryz.prog w = .ok (.bool (hit k)) w
  set : ∀ (k c : Int) (t : Bs) (cl : Option Addr) (cn cc q p tb b : Nat) (W : World), 1 ≤ k → k ≤ 10 → hit k = true → Blk W b (stC false (vErr k c t cl cn cc q p)) → Blk W tb old →
    ∃ W', (ReflectliteValue.set #[rva T ⟨tb, 0, none⟩ fl, rva (dyn k) ⟨b, 0, none⟩ (dfl k)]).run Tryz.prog W = .ok (.tuple #[]) W' ∧ Kept (N1 tb) W W' ∧ Blk W' tb (stC ifc (vErr k c t cl cn cc q p))
  give : ∀ (p tb : Nat) (W : World) (k i c : Int) (t : Bs) (b : Dt) (bl : Option Addr) (bn bc : Nat) (cl : Option Addr) (cn cc : Nat) (l : Option Addr) (n cap : Nat), Blk W p (V11 k i c t b bl bn bc cl cn cc l n cap) → Blk W tb old →
    Calls Tryz.prog 191 #[.pointer (some ⟨p, 0, none⟩), .iface PT (.pointer (some ⟨tb, 0, none⟩))] W (GVP gv tb c t W)
  gi : gv = true → ifc = false
/-- what errors.As finds: of a row, of one error -/
def faL (hit : Int → Bool) (gv : Bool) : Eo → Option Et
  | .nil => none
  | .cons k i c t b cs ks rest => match (if k = 0 then none else if hit k = true then some ⟨k, i, c, t, b, cs, ks⟩ else if k = 9 ∧ gv = true then some ⟨1, 0, c, t, Dt.zero, [], .nil⟩ else faL hit gv ks : Option Et) with
    | some x => some x
    | none => faL hit gv rest
def fa1 (hit : Int → Bool) (gv : Bool) (e : Et) : Option Et := if e.k = 0 then none else if hit e.k = true then some e else if e.k = 9 ∧ gv = true then some ⟨1, 0, e.c, e.t, Dt.zero, [], .nil⟩ else faL hit gv e.l
theorem faL_cons (hit : Int → Bool) (gv : Bool) (k i c : Int) (t : Bs) (b : Dt) (cs : List Int) (ks rest : Eo) : faL hit gv (.cons k i c t b cs ks rest) = match fa1 hit gv ⟨k, i, c, t, b, cs, ks⟩ with | some x => some x | none => faL hit gv rest := by
  rw [faL]
  rfl
theorem faL_app (hit : Int → Bool) (gv : Bool) : ∀ (f g : Eo), faL hit gv (f.app g) = match faL hit gv f with | some x => some x | none => faL hit gv g
  | .nil, _ => rfl
  | .cons k i c t b cs ks rest, g => by
    rw [Eo.app, faL_cons, faL_cons, faL_app hit gv rest g]
    cases fa1 hit gv ⟨k, i, c, t, b, cs, ks⟩ with
    | some x => rfl
    | none => rfl
theorem faL_one (hit : Int → Bool) (gv : Bool) (k i c : Int) (t : Bs) (b : Dt) (cs : List Int) (ks : Eo) : faL hit gv (.cons k i c t b cs ks .nil) = fa1 hit gv ⟨k, i, c, t, b, cs, ks⟩ := by
  rw [faL_cons]
  cases fa1 hit gv ⟨k, i, c, t, b, cs, ks⟩ <;> rfl
/-- errors.As has come back -/
def ASP (S : Nat → Prop) (tb : Nat) (ifc : Bool) (fd : Option Et) (w : World) (r : Ending) (w' : World) : Prop :=
  match fd with
  | none => r = .returned (.bool false) ∧ Below w.heap.size w w'
  | some x => r = .returned (.bool true) ∧ Kept (N1 tb) w w' ∧ ∃ v, EVAt S (N1 tb) w' x v ∧ Blk w' tb (stC ifc v)
theorem ASP.none {S : Nat → Prop} {tb : Nat} {ifc : Bool} {w w' : World} {fd : Option Et} (h : fd = none) (hB : Below w.heap.size w w') : ASP S tb ifc fd w (.returned (.bool false)) w' := by
  subst h; exact ⟨rfl, hB⟩
def AS1 (T PT : Nat) (ifc gv : Bool) (hit : Int → Bool) (old : List Value) (S : Nat → Prop) (tb ab : Nat) (e : Et) (v : Value) : Prop := ∀ w, EVAt S (N1 tb) w e v → Blk w ab [.pointer (some ⟨tb, 0, none⟩)] → Blk w tb old → ab ≠ tb → (∀ x, S x → x < w.heap.size ∧ x ≠ tb) →
  Calls Tryz.prog 98 #[v, .iface PT (.pointer (some ⟨tb, 0, none⟩)), rva PT ⟨ab, 0, none⟩ 150, rty T] w (ASP S tb ifc (fa1 hit gv e) w)
theorem leaf_kids {k i c : Int} {t : Bs} {b : Dt} {cs : List Int} {kids : Eo} (hr : rightE ⟨k, i, c, t, b, cs, kids⟩ = true) (hm : (fldM k).most = 0) : kids = .nil := by
  unfold rightE rright1 at hr
  rw [Bool.and_eq_true] at hr
  have := (fit_num hr.1).2.1.2
  dsimp only at this
  exact len0 (by omega)
theorem one_kid2 {k i c : Int} {t : Bs} {b : Dt} {cs : List Int} {kids : Eo} (hr : rightE ⟨k, i, c, t, b, cs, kids⟩ = true) (hm : (fldM k).least = 1 ∧ (fldM k).most = 1) : ∃ k2 i2 c2 t2 b2 cs2 ks2, kids = .cons k2 i2 c2 t2 b2 cs2 ks2 .nil := by
  unfold rightE rright1 at hr
  rw [Bool.and_eq_true] at hr
  have := (fit_num hr.1).2.1
  dsimp only at this
  exact len1 (by omega)
theorem like_kids {i c : Int} {t : Bs} {b : Dt} {cs : List Int} {kids : Eo} (hr : rightE ⟨8, i, c, t, b, cs, kids⟩ = true) : kids = .nil ∨ ∃ k2 i2 c2 t2 b2 cs2 ks2, kids = .cons k2 i2 c2 t2 b2 cs2 ks2 .nil := by
  unfold rightE rright1 at hr
  rw [Bool.and_eq_true] at hr
  have := (fit_num hr.1).2.1
  dsimp only at this
  have h2 : (fldM 8).most = 1 := by decide
  rcases Nat.eq_zero_or_pos kids.len with h | h
  · exact .inl (len0 h)
  · exact .inr (len1 (by omega))
theorem kid_right {k i c : Int} {t : Bs} {b : Dt} {cs : List Int} {k2 i2 c2 : Int} {t2 : Bs} {b2 : Dt} {cs2 : List Int} {ks2 r : Eo} (hr : rightE ⟨k, i, c, t, b, cs, .cons k2 i2 c2 t2 b2 cs2 ks2 r⟩ = true) : rightE ⟨k2, i2, c2, t2, b2, cs2, ks2⟩ = true := by
  unfold rightE rright1 at hr
  rw [Bool.and_eq_true] at hr
  exact right_head hr.2
theorem right_ten {k i c : Int} {t : Bs} {b : Dt} {cs : List Int} {kids : Eo} (hr : rightE ⟨k, i, c, t, b, cs, kids⟩ = true) : 0 ≤ k ∧ k ≤ 10 := by
  unfold rightE rright1 at hr
  rw [Bool.and_eq_true] at hr
  exact (fit_num hr.1).1
theorem kid_pos {k i c : Int} {t : Bs} {b : Dt} {cs : List Int} {k2 i2 c2 : Int} {t2 : Bs} {b2 : Dt} {cs2 : List Int} {ks2 r : Eo} (hr : rightE ⟨k, i, c, t, b, cs, .cons k2 i2 c2 t2 b2 cs2 ks2 r⟩ = true) (hm : (k == 4) = false) : 1 ≤ k2 ∧ k2 ≤ 10 := by
  have h2 := right_ten (kid_right hr)
  unfold rightE rright1 at hr
  rw [Bool.and_eq_true] at hr
  have h := hr.2
  dsimp only at h
  rw [hm, rrightL] at h
  simp only [Bool.and_eq_true, Bool.not_false, Bool.true_and, Bool.not_eq_true', beq_eq_false_iff_ne] at h
  have := h.1.1
  omega
theorem GVP.yes {tb : Nat} {c : Int} {t : Bs} {W : World} {r : Ending} {W' : World} (h : GVP true tb c t W r W') : r = .returned (.bool true) ∧ Kept (N1 tb) W W' ∧ Blk W' tb [.int .i64 c, .string ⟨t.toArray⟩] := h
theorem GVP.no {tb : Nat} {c : Int} {t : Bs} {W : World} {r : Ending} {W' : World} (h : GVP false tb c t W r W') : r = .returned (.bool false) ∧ W' = W := h
theorem plain_at {S N : Nat → Prop} {w : World} {c : Int} {t : Bs} : EVAt S N w ⟨1, 0, c, t, Dt.zero, [], .nil⟩ (.iface 101 (.agg #[.int .i64 c, .string ⟨t.toArray⟩])) := by
  refine ⟨none, 0, 0, none, 0, 0, none, 0, 0, 0, 0, rfl, ErAt.none, fun h => ?_, fun h => ?_⟩
  · exact absurd (show (1 : Int) = 5 from h) (by decide)
  · unfold isPt at h; dsimp only at h; omega
theorem ASP.no {S : Nat → Prop} {tb : Nat} {ifc : Bool} {w w' : World} {r : Ending} (h : ASP S tb ifc Option.none w r w') : r = .returned (.bool false) ∧ Below w.heap.size w w' := h
theorem ASP.yes {S : Nat → Prop} {tb : Nat} {ifc : Bool} {w w' : World} {r : Ending} {x : Et} (h : ASP S tb ifc (some x) w r w') : r = .returned (.bool true) ∧ Kept (N1 tb) w w' ∧ ∃ v, EVAt S (N1 tb) w' x v ∧ Blk w' tb (stC ifc v) := h
theorem many_len {i c : Int} {t : Bs} {b : Dt} {cs : List Int} {kids : Eo} (hr : rightE ⟨4, i, c, t, b, cs, kids⟩ = true) : kids.len ≤ 4096 := by
  unfold rightE rright1 at hr
  rw [Bool.and_eq_true] at hr
  have := (fit_num hr.1).2.1.2
  dsimp only at this
  have h2 : (fldM 4).most = 4096 := by decide
  omega
theorem many_right {i c : Int} {t : Bs} {b : Dt} {cs : List Int} {kids : Eo} (hr : rightE ⟨4, i, c, t, b, cs, kids⟩ = true) : rrightL true kids = true := by
  unfold rightE rright1 at hr
  rw [Bool.and_eq_true] at hr
  exact hr.2
def AmRel (gv : Bool) (hit : Int → Bool) (S : Nat → Prop) (tb : Nat) (kids : Eo) (a : Option Addr) (c : Nat) (vs : List Value) (w3 : World) (t50 : Value) (wx : World) : Prop :=
  ∃ (dn rest : Eo), t50 = .int .i64 (dn.len : Nat) ∧ kids = dn.app rest ∧ EVs S (N1 tb) wx rest (vs.drop dn.len) ∧ Below w3.heap.size w3 wx ∧ Row 0 wx 1 a kids.len c vs ∧ faL hit gv dn = none
def AsRel (gv : Bool) (hit : Int → Bool) (S : Nat → Prop) (tb : Nat) (e : Et) (w1 : World) (f : Nat) (t0 : Value) (wr : World) : Prop :=
  ∃ e' , EVAt S (N1 tb) wr e' t0 ∧ rightE e' = true ∧ 1 ≤ e'.k ∧ fa1 hit gv e' = fa1 hit gv e ∧ ehi e'.l = f ∧ f ≤ ehi e.l ∧ Below w1.heap.size w1 wr
set_option maxRecDepth 100000 in
set_option maxHeartbeats 32000000 in
theorem as98 {T PT : Nat} {fl : Int} {ifc gv : Bool} {hit : Int → Bool} {old : List Value} {S : Nat → Prop} {tb ab : Nat} (hA : ATy T PT fl ifc gv hit old) : ∀ (H : Nat) (e : Et) (v : Value), ehi e.l ≤ H → rightE e = true → 1 ≤ e.k → AS1 T PT ifc gv hit old S tb ab e v := by
  intro H
  induction H using Nat.strongRecOn with
  | ind H ih =>
  intro e v hH hr h1 w hv hAB hTB hne hS
  have hlo : ∀ x, S x → ¬ N1 tb x := fun x hx e => (hS x hx).2 e
  obtain ⟨hB0, hX0⟩ : Below w.heap.size w (w.alloc (.cells #[hdl PT, .pointer (some ⟨ab, 0, none⟩), .int .u64 150] 156)) ∧ Blk (w.alloc (.cells #[hdl PT, .pointer (some ⟨ab, 0, none⟩), .int .u64 150] 156)) w.heap.size [hdl PT, .pointer (some ⟨ab, 0, none⟩), .int .u64 150] := ⟨(Below.refl _ _).alloc (Nat.le_refl _) _, Blk.new w #[hdl PT, .pointer (some ⟨ab, 0, none⟩), .int .u64 150] 156⟩
  have HA := Lib.hid hA
  have HH := Lib.hid hH
  have HS := Lib.hid hS
  have HLO := Lib.hid hlo
  have HBL := Lib.hid (And.intro hAB (And.intro hTB hne))
  have HIH := Lib.hid ih
  have HV := Lib.hid (And.intro (hv.below hB0 hlo) (And.intro hr h1))
  clear hA hH hS hlo hAB hTB hne ih hv hr h1
  have h95 := @run_callFunc_extern Tryz.prog 95 _ (fun args => ReflectliteValue.unpack (args.getD 0 (.tuple #[]))) Tryz.func95 (by kernel_rfl) (by kernel_rfl) (by kernel_rfl) (by kernel_rfl)
  have h111 := @run_callFunc_extern Tryz.prog 111 _ ReflectliteType.typeOf Tryz.func111 (by kernel_rfl) (by kernel_rfl) (by kernel_rfl) (by kernel_rfl)
  have h203 := @run_callFunc_extern Tryz.prog 203 _ (ReflectliteType.relation "AssignableTo" ReflectliteType.assignableTo) Tryz.func203 (by kernel_rfl) (by kernel_rfl) (by kernel_rfl) (by kernel_rfl)
  have h112 := @run_callFunc_extern Tryz.prog 112 _ (ReflectliteValue.method (ReflectliteValue.valueError "reflectlite.Value.Elem" 0) ReflectliteValue.elem) Tryz.func112 (by kernel_rfl) (by kernel_rfl) (by kernel_rfl) (by kernel_rfl)
  have h113 := @run_callFunc_extern Tryz.prog 113 _ ReflectliteValue.set Tryz.func113 (by kernel_rfl) (by kernel_rfl) (by kernel_rfl) (by kernel_rfl)
  go_enter Tryz.func98, Tryz.ntmps98
  go_upto_block 0 with (fail)
  generalize w.alloc (.cells #[hdl PT, .pointer (some ⟨ab, 0, none⟩), .int .u64 150] 156) = w1 at *
  generalize hxb : w.heap.size = xb at *
  have HXB := Lib.hid hxb
  have HB0 := Lib.hid hB0
  have HX0 := Lib.hid hX0
  clear hB0 hX0 hxb
  go_wp2_with fail
  go_loopw [0] (fun t0 wr => ∃ f, AsRel gv hit S tb e w1 f t0 wr) (fun t0 wr => least (fun f => AsRel gv hit S tb e w1 f t0 wr))
  case atStart => exact ⟨_, e, HV.out.1, HV.out.2.1, HV.out.2.2, rfl, rfl, Nat.le_refl _, Below.refl _ _⟩
  case round =>
    obtain ⟨f, hf, hle⟩ : ∃ f, AsRel gv hit S tb e w1 f u0 wr ∧ f ≤ least (fun f => AsRel gv hit S tb e w1 f u0 wr) := ⟨_, least_spec hrel, Nat.le_refl _⟩
    have HLE := Lib.hid hle
    clear hle hrel HV
    obtain ⟨⟨k, i, c, t, b, cs, kids⟩, hev, hr, h1, hfa, hf, hfe, hB⟩ := hf
    have HEV := Lib.hid hev
    obtain ⟨bl, bn, bc, cl, cn, cc, l, n, cap, q, p, hve, hE, h5, hpt⟩ := hev
    dsimp only at hve hE h5 hpt hr h1 hf
    have hBw : Below w.heap.size w wr := by have h := HB0.out; rw [← HXB.out] at h; exact bel_tr h hB
    have hAB := HBL.out.1.below hBw
    have hTB := HBL.out.2.1.below hBw
    have hX := HX0.out.below hB
    have x0 := hX.cell 0 rfl
    have x1 := hX.cell 1 rfl
    have x2 := hX.cell 2 rfl
    have hel := elem_run HA.out.po (hAB.cell 0 rfl)
    have mA := mAsg
    have HFA := Lib.hid hfa
    have HFE := Lib.hid (And.intro hf hfe)
    have HBW := Lib.hid hBw
    have HB := Lib.hid hB
    have HBLK := Lib.hid (And.intro hAB (And.intro hTB hX))
    have HR := Lib.hid hr
    have HE := Lib.hid hE
    have HPT := Lib.hid hpt
    have hk10 : k ≤ 10 := by
      have h3 := hr
      unfold rightE rright1 at h3
      rw [Bool.and_eq_true] at h3
      have h4 := (fit_num h3.1).1
      dsimp only at h4
      omega
    clear hfa hf hfe hBw hB hAB hTB hX hr hE hpt h5
    rcases kinds_cases k with rfl | rfl | rfl | rfl | rfl | rfl | rfl | rfl | rfl | rfl | ⟨z1, z2, z3, z4, z5, z6, z7, z8, z9, z10⟩
    rotate_left 10
    · omega
    · -- kind 1
      clear h1 hk10
      have hve2 : u0 = .iface 101 (.agg #[.int .i64 c, .string ⟨t.toArray⟩]) := hve
      subst hve2
      clear hve
      have hto := fun v w => to101 v w
      have hag : ∀ w, (ReflectliteType.relation "AssignableTo" ReflectliteType.assignableTo #[.agg #[hdl 101], rty T]).run Tryz.prog w = .ok (.bool (hit 1)) w := fun w => HA.out.asg 1 (by decide) (by decide) w
      have ht1 := fun v w => asa101 v w
      have ht2 := fun v w => unt101 v w
      have ht3 := fun v w => unm101 v w
      cases hh : hit 1
      rotate_left
      · rw [hh] at hag
        obtain ⟨W', hset, hK9, hB9⟩ := HA.out.set 1 c t cl cn cc q p tb wr.heap.size (wr.alloc (.cells #[.int .i64 c, .string ⟨t.toArray⟩] 101)) (by decide) (by decide) hh (Blk.new wr #[.int .i64 c, .string ⟨t.toArray⟩] 101) (HBLK.out.2.1.alloc _)
        have hset2 : (ReflectliteValue.set #[rva T ⟨tb, 0, none⟩ fl, rva 101 ⟨wr.heap.size, 0, none⟩ 153]).run Tryz.prog (wr.alloc (.cells #[.int .i64 c, .string ⟨t.toArray⟩] 101)) = .ok (.tuple #[]) W' := hset
        have hup : (ReflectliteValue.unpack (.iface 101 (.agg #[.int .i64 c, .string ⟨t.toArray⟩]))).run Tryz.prog wr = .ok (rva 101 ⟨wr.heap.size, 0, none⟩ 153) (wr.alloc (.cells #[.int .i64 c, .string ⟨t.toArray⟩] 101)) := up101 _ _ wr
        have HFD := Lib.hid (show some ⟨1, i, c, t, b, cs, kids⟩ = fa1 hit gv e by rw [← HFA.out]; unfold fa1; rw [if_neg (show ¬ ((1 : Int) = 0) by decide), if_pos hh])
        have HK9 := Lib.hid (show Kept (N1 tb) wr W' from ((Kept.refl _ _).alloc _).trans hK9)
        have HB9 := Lib.hid hB9
        clear hset hK9 hB9 hh ht1 ht2 ht3
        go_wp2_with fail
        go_ret
        rw [← HFD.out]
        exact ⟨rfl, (Kept.of' HBW.out).trans HK9.out, _, HEV.out.keep HK9.out (fun _ _ h => h) HLO.out, HB9.out⟩
      · rw [hh] at hag
        have HFD := Lib.hid (show fa1 hit gv e = faL hit gv kids by rw [← HFA.out]; unfold fa1; rw [if_neg (show ¬ ((1 : Int) = 0) by decide), if_neg (by rw [hh]; exact Bool.false_ne_true), if_neg (show ¬ ((1 : Int) = 9 ∧ gv = true) from fun h => absurd h.1 (by decide))])
        clear hh hel
        have HK0 := Lib.hid (show kids = .nil from leaf_kids HR.out (by decide))
        have HFN := Lib.hid (show fa1 hit gv e = none by rw [HFD.out, HK0.out]; rfl)
        go_wp2_with fail
        go_ret
        exact ASP.none HFN.out HBW.out
    · -- kind 2
      clear h1 hk10
      have hve2 : u0 = .iface 89 (.pointer (some ⟨p, 0, none⟩)) := hve
      subst hve2
      clear hve
      have hto := fun v w => to89 v w
      have hag : ∀ w, (ReflectliteType.relation "AssignableTo" ReflectliteType.assignableTo #[.agg #[hdl 89], rty T]).run Tryz.prog w = .ok (.bool (hit 2)) w := fun w => HA.out.asg 2 (by decide) (by decide) w
      have ht1 := fun v w => asa89 v w
      have ht2 := fun v w => unt89 v w
      have ht3 := fun v w => unm89 v w
      cases hh : hit 2
      rotate_left
      · rw [hh] at hag
        obtain ⟨W', hset, hK9, hB9⟩ := HA.out.set 2 c t cl cn cc q p tb wr.heap.size (wr.alloc (.cells #[.pointer (some ⟨p, 0, none⟩)] 89)) (by decide) (by decide) hh (Blk.new wr #[.pointer (some ⟨p, 0, none⟩)] 89) (HBLK.out.2.1.alloc _)
        have hset2 : (ReflectliteValue.set #[rva T ⟨tb, 0, none⟩ fl, rva 89 ⟨wr.heap.size, 0, none⟩ 150]).run Tryz.prog (wr.alloc (.cells #[.pointer (some ⟨p, 0, none⟩)] 89)) = .ok (.tuple #[]) W' := hset
        have hup : (ReflectliteValue.unpack (.iface 89 (.pointer (some ⟨p, 0, none⟩)))).run Tryz.prog wr = .ok (rva 89 ⟨wr.heap.size, 0, none⟩ 150) (wr.alloc (.cells #[.pointer (some ⟨p, 0, none⟩)] 89)) := up89 _ wr
        have HFD := Lib.hid (show some ⟨2, i, c, t, b, cs, kids⟩ = fa1 hit gv e by rw [← HFA.out]; unfold fa1; rw [if_neg (show ¬ ((2 : Int) = 0) by decide), if_pos hh])
        have HK9 := Lib.hid (show Kept (N1 tb) wr W' from ((Kept.refl _ _).alloc _).trans hK9)
        have HB9 := Lib.hid hB9
        clear hset hK9 hB9 hh ht1 ht2 ht3
        go_wp2_with fail
        go_ret
        rw [← HFD.out]
        exact ⟨rfl, (Kept.of' HBW.out).trans HK9.out, _, HEV.out.keep HK9.out (fun _ _ h => h) HLO.out, HB9.out⟩
      · rw [hh] at hag
        have HFD := Lib.hid (show fa1 hit gv e = faL hit gv kids by rw [← HFA.out]; unfold fa1; rw [if_neg (show ¬ ((2 : Int) = 0) by decide), if_neg (by rw [hh]; exact Bool.false_ne_true), if_neg (show ¬ ((2 : Int) = 9 ∧ gv = true) from fun h => absurd h.1 (by decide))])
        clear hh hel
        have HK0 := Lib.hid (show kids = .nil from leaf_kids HR.out (by decide))
        have HFN := Lib.hid (show fa1 hit gv e = none by rw [HFD.out, HK0.out]; rfl)
        go_wp2_with fail
        go_ret
        exact ASP.none HFN.out HBW.out
    · -- kind 3
      clear h1 hk10
      have hve2 : u0 = .iface 102 (.pointer (some ⟨p, 0, none⟩)) := hve
      subst hve2
      clear hve
      have hto := fun v w => to102 v w
      have hag : ∀ w, (ReflectliteType.relation "AssignableTo" ReflectliteType.assignableTo #[.agg #[hdl 102], rty T]).run Tryz.prog w = .ok (.bool (hit 3)) w := fun w => HA.out.asg 3 (by decide) (by decide) w
      have ht1 := fun v w => asa102 v w
      have ht2 := fun v w => unt102 v w
      have ht3 := fun v w => unm102 v w
      cases hh : hit 3
      rotate_left
      · rw [hh] at hag
        obtain ⟨W', hset, hK9, hB9⟩ := HA.out.set 3 c t cl cn cc q p tb wr.heap.size (wr.alloc (.cells #[.pointer (some ⟨p, 0, none⟩)] 102)) (by decide) (by decide) hh (Blk.new wr #[.pointer (some ⟨p, 0, none⟩)] 102) (HBLK.out.2.1.alloc _)
        have hset2 : (ReflectliteValue.set #[rva T ⟨tb, 0, none⟩ fl, rva 102 ⟨wr.heap.size, 0, none⟩ 150]).run Tryz.prog (wr.alloc (.cells #[.pointer (some ⟨p, 0, none⟩)] 102)) = .ok (.tuple #[]) W' := hset
        have hup : (ReflectliteValue.unpack (.iface 102 (.pointer (some ⟨p, 0, none⟩)))).run Tryz.prog wr = .ok (rva 102 ⟨wr.heap.size, 0, none⟩ 150) (wr.alloc (.cells #[.pointer (some ⟨p, 0, none⟩)] 102)) := up102 _ wr
        have HFD := Lib.hid (show some ⟨3, i, c, t, b, cs, kids⟩ = fa1 hit gv e by rw [← HFA.out]; unfold fa1; rw [if_neg (show ¬ ((3 : Int) = 0) by decide), if_pos hh])
        have HK9 := Lib.hid (show Kept (N1 tb) wr W' from ((Kept.refl _ _).alloc _).trans hK9)
        have HB9 := Lib.hid hB9
        clear hset hK9 hB9 hh ht1 ht2 ht3
        go_wp2_with fail
        go_ret
        rw [← HFD.out]
        exact ⟨rfl, (Kept.of' HBW.out).trans HK9.out, _, HEV.out.keep HK9.out (fun _ _ h => h) HLO.out, HB9.out⟩
      · rw [hh] at hag
        have HFD := Lib.hid (show fa1 hit gv e = faL hit gv kids by rw [← HFA.out]; unfold fa1; rw [if_neg (show ¬ ((3 : Int) = 0) by decide), if_neg (by rw [hh]; exact Bool.false_ne_true), if_neg (show ¬ ((3 : Int) = 9 ∧ gv = true) from fun h => absurd h.1 (by decide))])
        clear hh hel
        have hmu := fun v w => m102u v w
        obtain ⟨k2, i2, c2, t2, b2, cs2, ks2, hkid⟩ := one_kid2 HR.out (by decide)
        subst hkid
        have hr2 := kid_right HR.out
        have hk2 := kid_pos HR.out (by decide)
        have HU := Lib.hid (unw149 (S := S) (N := N1 tb) (HPT.out (.inr (.inl rfl))).1 HE.out.2.2 (fun x e => by have h9 := HBLK.out.2.1.1; unfold N1 at e; rw [e]; exact h9))
        have HFN := Lib.hid (show fa1 hit gv ⟨k2, i2, c2, t2, b2, cs2, ks2⟩ = fa1 hit gv e by rw [HFD.out, faL_one])
        have HK2 := Lib.hid (And.intro hr2 hk2)
        clear hr2 hk2
        go_upto_region 13 with (go_at_call 149; (with_reducible refine HU.out.mono ?_); intro e2 w2 hI; obtain ⟨v2, rfl, hv2, hB2⟩ := hI; have HV2 := Lib.hid hv2; have HB2 := Lib.hid hB2; clear hv2 hB2)
        obtain ⟨u2, y2, hu2⟩ := HV2.out.if' HK2.out.2.1 HK2.out.2.2
        subst hu2
        go_wp2_with fail
        go_roundw
        case rel => exact ⟨ehi ks2, ⟨k2, i2, c2, t2, b2, cs2, ks2⟩, HV2.out, HK2.out.1, HK2.out.2.1, HFN.out, rfl, by have h := HFE.out; simp only [ehi] at h; omega, bel_tr HB.out HB2.out⟩
        case measure =>
          refine Nat.lt_of_le_of_lt (least_le (n := ehi ks2) ⟨⟨k2, i2, c2, t2, b2, cs2, ks2⟩, HV2.out, HK2.out.1, HK2.out.2.1, HFN.out, rfl, by have h := HFE.out; simp only [ehi] at h; omega, bel_tr HB.out HB2.out⟩) ?_
          have h := HFE.out; have h2 := HLE.out; simp only [ehi] at h; omega
    · -- kind 4
      clear h1 hk10
      have hve2 : u0 = .iface 103 (.pointer (some ⟨p, 0, none⟩)) := hve
      subst hve2
      clear hve
      have hto := fun v w => to103 v w
      have hag : ∀ w, (ReflectliteType.relation "AssignableTo" ReflectliteType.assignableTo #[.agg #[hdl 103], rty T]).run Tryz.prog w = .ok (.bool (hit 4)) w := fun w => HA.out.asg 4 (by decide) (by decide) w
      have ht1 := fun v w => asa103 v w
      have ht2 := fun v w => unt103 v w
      have ht3 := fun v w => unm103 v w
      cases hh : hit 4
      rotate_left
      · rw [hh] at hag
        obtain ⟨W', hset, hK9, hB9⟩ := HA.out.set 4 c t cl cn cc q p tb wr.heap.size (wr.alloc (.cells #[.pointer (some ⟨p, 0, none⟩)] 103)) (by decide) (by decide) hh (Blk.new wr #[.pointer (some ⟨p, 0, none⟩)] 103) (HBLK.out.2.1.alloc _)
        have hset2 : (ReflectliteValue.set #[rva T ⟨tb, 0, none⟩ fl, rva 103 ⟨wr.heap.size, 0, none⟩ 150]).run Tryz.prog (wr.alloc (.cells #[.pointer (some ⟨p, 0, none⟩)] 103)) = .ok (.tuple #[]) W' := hset
        have hup : (ReflectliteValue.unpack (.iface 103 (.pointer (some ⟨p, 0, none⟩)))).run Tryz.prog wr = .ok (rva 103 ⟨wr.heap.size, 0, none⟩ 150) (wr.alloc (.cells #[.pointer (some ⟨p, 0, none⟩)] 103)) := up103 _ wr
        have HFD := Lib.hid (show some ⟨4, i, c, t, b, cs, kids⟩ = fa1 hit gv e by rw [← HFA.out]; unfold fa1; rw [if_neg (show ¬ ((4 : Int) = 0) by decide), if_pos hh])
        have HK9 := Lib.hid (show Kept (N1 tb) wr W' from ((Kept.refl _ _).alloc _).trans hK9)
        have HB9 := Lib.hid hB9
        clear hset hK9 hB9 hh ht1 ht2 ht3
        go_wp2_with fail
        go_ret
        rw [← HFD.out]
        exact ⟨rfl, (Kept.of' HBW.out).trans HK9.out, _, HEV.out.keep HK9.out (fun _ _ h => h) HLO.out, HB9.out⟩
      · rw [hh] at hag
        have HFD := Lib.hid (show fa1 hit gv e = faL hit gv kids by rw [← HFA.out]; unfold fa1; rw [if_neg (show ¬ ((4 : Int) = 0) by decide), if_neg (by rw [hh]; exact Bool.false_ne_true), if_neg (show ¬ ((4 : Int) = 9 ∧ gv = true) from fun h => absurd h.1 (by decide))])
        clear hh hel
        have hmu := fun v w => m103u v w
        have hm := many_len HR.out
        have hnl : kids.len = n := HE.out.2.2.len
        have hsw : w.heap.size ≤ wr.heap.size := HBW.out.size
        have hS2 : ∀ x, S x → x < wr.heap.size ∧ x ≠ tb := fun x hx => ⟨Nat.lt_of_lt_of_le (HS.out x hx).1 (by rw [← HXB.out]; exact hsw), (HS.out x hx).2⟩
        have HU := Lib.hid (unw153 (S := S) (N := N1 tb) (kids := kids) (HPT.out (.inr (.inr (.inl rfl)))).1 HE.out.2.2 (fun x hx => ⟨(hS2 x hx).1, HLO.out x hx⟩) (fun x e => by have h9 := HBLK.out.2.1.1; unfold N1 at e; rw [e]; exact h9) (by omega))
        have HS2 := Lib.hid hS2
        have HHE := Lib.hid (show ehi kids ≤ H from by have h1 := HFE.out; have h2 := HH.out; omega)
        have HRR := Lib.hid (many_right HR.out)
        have HM := Lib.hid hm
        clear hS2 hnl hsw hm
        go_upto_block 3 with (go_at_call 153; (with_reducible refine HU.out.mono ?_); rintro e3 w3 ⟨a3, c3, vs, rfl, hR3, hV3, hB3⟩; have HW3 := Lib.hid (bel_tr HBW.out hB3); have HA3 := Lib.hid (And.intro (HBLK.out.1.below hB3) (And.intro (HBLK.out.2.1.below hB3) (And.intro (HBLK.out.2.2.below hB3) (fun x hx => ⟨Nat.lt_of_lt_of_le (HS2.out x hx).1 hB3.size, (HS2.out x hx).2⟩ : ∀ x, S x → x < w3.heap.size ∧ x ≠ tb)))); have HV3 := Lib.hid hV3; have HR3 := Lib.hid (hR3.mono (Nat.zero_le _)); clear hR3 hV3 hB3)
        go_wp2_with fail
        clear HU HE HPT HEV HBLK HB HBW HS2 HLE HFE HX0 HB0 x0 x1 x2
        go_loopw [50] (fun t50 wx => AmRel gv hit S tb kids a3 c3 vs w3 t50 wx) (fun t50 _ => kids.len - (intOf t50).toNat)
        case atStart => exact ⟨.nil, kids, rfl, rfl, HV3.out, Below.refl _ _, HR3.out, rfl⟩
        case round =>
          obtain ⟨dn, rest, rfl, hk, hEV, hB4, hR4, hq⟩ := hrel
          have hlen : kids.len = dn.len + rest.len := by rw [hk, Eo.len_app]
          have HB4 := Lib.hid hB4
          have hX4 := HA3.out.2.2.1.below hB4
          have x0 := hX4.cell 0 rfl
          have x1 := hX4.cell 1 rfl
          have x2 := hX4.cell 2 rfl
          cases rest with
          | nil =>
            have hj : ¬ (dn.len : Int) < (kids.len : Int) := by have : Eo.len .nil = 0 := rfl; omega
            have HFN := Lib.hid (show fa1 hit gv e = none by rw [HFD.out, hk, Eo.app_nil]; exact hq)
            clear hk hEV hB4 hR4 hq hlen hX4
            generalize kids.len = m at *
            go_wp2_with fail
            go_ret
            exact ASP.none HFN.out (bel_tr HW3.out HB4.out)
          | cons k2 i2 c2 t2 b2 cs2 ks2 r2 =>
            have hlr : (Eo.cons k2 i2 c2 t2 b2 cs2 ks2 r2).len = r2.len + 1 := rfl
            have hjn : dn.len < kids.len := by omega
            have hj : (dn.len : Int) < (kids.len : Int) := by omega
            obtain ⟨v2, vs2, hvs, hv2, hEV2⟩ := hEV
            have hget : vs[dn.len]? = some v2 := by
              have h := congrArg (fun l => l[0]?) hvs
              simpa [List.getElem?_drop] using h
            have hd2 : vs.drop (dn.len + 1) = vs2 := by
              rw [← List.drop_drop, hvs]
              rfl
            obtain ⟨bb, off, rfl, hltb, hcell⟩ : ∃ b off, a3 = some ⟨b, off, none⟩ ∧ b < wr.heap.size ∧ wr.cell? ⟨b, off + dn.len, none⟩ = some v2 := by
              obtain ⟨b, off, ha, hb, hc⟩ := hR4.rd.at (k := dn.len) hjn
              have h := hc 0 (by omega)
              exact ⟨b, off, ha, hb, by rw [Nat.mul_one, Nat.add_zero] at h; rw [h]; exact hget⟩
            have hrk : rightE ⟨k2, i2, c2, t2, b2, cs2, ks2⟩ = true := by
              have h := HRR.out
              rw [hk] at h
              exact right_head (rrightL_app true dn h)
            have hten := right_ten hrk
            have hlow : ehi ks2 < H := by
              have h := HHE.out
              rw [hk] at h
              have h4 := ehi_app dn (g := .cons k2 i2 c2 t2 b2 cs2 ks2 r2)
              simp only [ehi] at h4
              omega
            have HREL := Lib.hid (show ∀ wx, fa1 hit gv ⟨k2, i2, c2, t2, b2, cs2, ks2⟩ = none → Below wr.heap.size wr wx → AmRel gv hit S tb kids (some ⟨bb, off, none⟩) c3 vs w3 (.int .i64 ((dn.len + 1 : Nat) : Int)) wx from fun wx hf hx =>
              ⟨dn.app (.cons k2 i2 c2 t2 b2 cs2 ks2 .nil), r2, by rw [Eo.len_app, show (Eo.cons k2 i2 c2 t2 b2 cs2 ks2 .nil).len = 1 from rfl], by rw [Eo.app_assoc]; exact hk,
                by rw [Eo.len_app, show (Eo.cons k2 i2 c2 t2 b2 cs2 ks2 .nil).len = 1 from rfl, hd2]; exact EVs.map (fun e u hu => hu.below hx HLO.out) _ hEV2, bel_tr hB4 hx, hR4.below hx, by rw [faL_app, hq]; show faL hit gv (.cons k2 i2 c2 t2 b2 cs2 ks2 .nil) = none; rw [faL_one]; exact hf⟩)
            have HSOME := Lib.hid (show ∀ x, fa1 hit gv ⟨k2, i2, c2, t2, b2, cs2, ks2⟩ = some x → fa1 hit gv e = some x from fun x hf => by rw [HFD.out, hk, faL_app, hq]; show faL hit gv (.cons k2 i2 c2 t2 b2 cs2 ks2 r2) = some x; rw [faL_cons, hf])
            have hHB := HA3.out
            have HCAL := Lib.hid (fun (h1 : 1 ≤ k2) => HIH.out (ehi ks2) hlow ⟨k2, i2, c2, t2, b2, cs2, ks2⟩ v2 (Nat.le_refl _) hrk h1 wr hv2 (hHB.1.below hB4) (hHB.2.1.below hB4) HBL.out.2.2 (fun x hx => ⟨Nat.lt_of_lt_of_le (hHB.2.2.2 x hx).1 hB4.size, (hHB.2.2.2 x hx).2⟩))
            have HV2 := Lib.hid hv2
            have HM2 := Lib.hid (And.intro hjn HM.out)
            have HT := Lib.hid hten
            have hsz := HM.out
            clear hk hEV2 hB4 hR4 hq hlen hlr hvs hget hd2 hltb hrk hlow hHB hv2 hX4 hten
            generalize hjj : dn.len = j at *
            clear hjj
            generalize kids.len = m at *
            by_cases h0 : k2 = 0
            · subst h0
              have hz : v2 = .nilIface := by
                obtain ⟨bl, bn, bc, cl, cn, cc, l, n, cap, q, p, hve, _⟩ := HV2.out
                exact hve
              subst hz
              clear HCAL HSOME
              go_wp2_with fail
              go_roundw
              case rel => exact HREL.out _ rfl (Below.refl _ _)
              case measure => simp [intOf]; have := HM2.out; omega
            · obtain ⟨u2, y2, hu2⟩ := HV2.out.if' (show 1 ≤ k2 by have := HT.out; omega) HT.out.2
              subst hu2
              have HC := Lib.hid (HCAL.out (by have := HT.out; omega))
              clear HCAL h0
              generalize fa1 hit gv ⟨k2, i2, c2, t2, b2, cs2, ks2⟩ = fk at *
              cases fk with
              | none =>
                go_wp2_with (go_at_call 98; (with_reducible refine HC.out.mono ?_); intro e5 w5 hI; obtain ⟨rfl, hB5⟩ := ASP.no hI; have HB5 := Lib.hid hB5; clear hI hB5)
                go_roundw
                case rel => exact HREL.out _ (by first | rfl | trivial) HB5.out
                case measure => simp [intOf]; have := HM2.out; omega
              | some x =>
                go_wp2_with (go_at_call 98; (with_reducible refine HC.out.mono ?_); intro e5 w5 hI; obtain ⟨rfl, hK5, hX5⟩ := ASP.yes hI; have HB5 := Lib.hid (And.intro hK5 hX5); clear hI hK5 hX5)
                go_ret
                rw [HSOME.out x rfl]
                exact ⟨rfl, (Kept.of' (bel_tr HW3.out HB4.out)).trans HB5.out.1, HB5.out.2⟩
    · -- kind 5
      clear h1 hk10
      have hve2 : u0 = .iface 106 (.agg #[.pointer (some ⟨q, 0, none⟩)]) := hve
      subst hve2
      clear hve
      have hto := fun v w => to106 v w
      have hag : ∀ w, (ReflectliteType.relation "AssignableTo" ReflectliteType.assignableTo #[.agg #[hdl 106], rty T]).run Tryz.prog w = .ok (.bool (hit 5)) w := fun w => HA.out.asg 5 (by decide) (by decide) w
      have ht1 := fun v w => asa106 v w
      have ht2 := fun v w => unt106 v w
      have ht3 := fun v w => unm106 v w
      cases hh : hit 5
      rotate_left
      · rw [hh] at hag
        obtain ⟨W', hset, hK9, hB9⟩ := HA.out.set 5 c t cl cn cc q p tb wr.heap.size (wr.alloc (.cells #[.pointer (some ⟨q, 0, none⟩)] 106)) (by decide) (by decide) hh (Blk.new wr #[.pointer (some ⟨q, 0, none⟩)] 106) (HBLK.out.2.1.alloc _)
        have hset2 : (ReflectliteValue.set #[rva T ⟨tb, 0, none⟩ fl, rva 106 ⟨wr.heap.size, 0, none⟩ 153]).run Tryz.prog (wr.alloc (.cells #[.pointer (some ⟨q, 0, none⟩)] 106)) = .ok (.tuple #[]) W' := hset
        have hup : (ReflectliteValue.unpack (.iface 106 (.agg #[.pointer (some ⟨q, 0, none⟩)]))).run Tryz.prog wr = .ok (rva 106 ⟨wr.heap.size, 0, none⟩ 153) (wr.alloc (.cells #[.pointer (some ⟨q, 0, none⟩)] 106)) := up106 _ wr
        have HFD := Lib.hid (show some ⟨5, i, c, t, b, cs, kids⟩ = fa1 hit gv e by rw [← HFA.out]; unfold fa1; rw [if_neg (show ¬ ((5 : Int) = 0) by decide), if_pos hh])
        have HK9 := Lib.hid (show Kept (N1 tb) wr W' from ((Kept.refl _ _).alloc _).trans hK9)
        have HB9 := Lib.hid hB9
        clear hset hK9 hB9 hh ht1 ht2 ht3
        go_wp2_with fail
        go_ret
        rw [← HFD.out]
        exact ⟨rfl, (Kept.of' HBW.out).trans HK9.out, _, HEV.out.keep HK9.out (fun _ _ h => h) HLO.out, HB9.out⟩
      · rw [hh] at hag
        have HFD := Lib.hid (show fa1 hit gv e = faL hit gv kids by rw [← HFA.out]; unfold fa1; rw [if_neg (show ¬ ((5 : Int) = 0) by decide), if_neg (by rw [hh]; exact Bool.false_ne_true), if_neg (show ¬ ((5 : Int) = 9 ∧ gv = true) from fun h => absurd h.1 (by decide))])
        clear hh hel
        have HK0 := Lib.hid (show kids = .nil from leaf_kids HR.out (by decide))
        have HFN := Lib.hid (show fa1 hit gv e = none by rw [HFD.out, HK0.out]; rfl)
        go_wp2_with fail
        go_ret
        exact ASP.none HFN.out HBW.out
    · -- kind 6
      clear h1 hk10
      have hve2 : u0 = .iface 107 (.slice cl cn cc) := hve
      subst hve2
      clear hve
      have hto := fun v w => to107 v w
      have hag : ∀ w, (ReflectliteType.relation "AssignableTo" ReflectliteType.assignableTo #[.agg #[hdl 107], rty T]).run Tryz.prog w = .ok (.bool (hit 6)) w := fun w => HA.out.asg 6 (by decide) (by decide) w
      have ht1 := fun v w => asa107 v w
      have ht2 := fun v w => unt107 v w
      have ht3 := fun v w => unm107 v w
      cases hh : hit 6
      rotate_left
      · rw [hh] at hag
        obtain ⟨W', hset, hK9, hB9⟩ := HA.out.set 6 c t cl cn cc q p tb wr.heap.size (wr.alloc (.cells #[.slice cl cn cc] 107)) (by decide) (by decide) hh (Blk.new wr #[.slice cl cn cc] 107) (HBLK.out.2.1.alloc _)
        have hset2 : (ReflectliteValue.set #[rva T ⟨tb, 0, none⟩ fl, rva 107 ⟨wr.heap.size, 0, none⟩ 151]).run Tryz.prog (wr.alloc (.cells #[.slice cl cn cc] 107)) = .ok (.tuple #[]) W' := hset
        have hup : (ReflectliteValue.unpack (.iface 107 (.slice cl cn cc))).run Tryz.prog wr = .ok (rva 107 ⟨wr.heap.size, 0, none⟩ 151) (wr.alloc (.cells #[.slice cl cn cc] 107)) := up107 _ _ _ wr
        have HFD := Lib.hid (show some ⟨6, i, c, t, b, cs, kids⟩ = fa1 hit gv e by rw [← HFA.out]; unfold fa1; rw [if_neg (show ¬ ((6 : Int) = 0) by decide), if_pos hh])
        have HK9 := Lib.hid (show Kept (N1 tb) wr W' from ((Kept.refl _ _).alloc _).trans hK9)
        have HB9 := Lib.hid hB9
        clear hset hK9 hB9 hh ht1 ht2 ht3
        go_wp2_with fail
        go_ret
        rw [← HFD.out]
        exact ⟨rfl, (Kept.of' HBW.out).trans HK9.out, _, HEV.out.keep HK9.out (fun _ _ h => h) HLO.out, HB9.out⟩
      · rw [hh] at hag
        have HFD := Lib.hid (show fa1 hit gv e = faL hit gv kids by rw [← HFA.out]; unfold fa1; rw [if_neg (show ¬ ((6 : Int) = 0) by decide), if_neg (by rw [hh]; exact Bool.false_ne_true), if_neg (show ¬ ((6 : Int) = 9 ∧ gv = true) from fun h => absurd h.1 (by decide))])
        clear hh hel
        have HK0 := Lib.hid (show kids = .nil from leaf_kids HR.out (by decide))
        have HFN := Lib.hid (show fa1 hit gv e = none by rw [HFD.out, HK0.out]; rfl)
        go_wp2_with fail
        go_ret
        exact ASP.none HFN.out HBW.out
    · -- kind 7
      clear h1 hk10
      have hve2 : u0 = .iface 89 (.pointer none) := hve
      subst hve2
      clear hve
      have hto := fun v w => to89 v w
      have hag : ∀ w, (ReflectliteType.relation "AssignableTo" ReflectliteType.assignableTo #[.agg #[hdl 89], rty T]).run Tryz.prog w = .ok (.bool (hit 7)) w := fun w => HA.out.asg 7 (by decide) (by decide) w
      have ht1 := fun v w => asa89 v w
      have ht2 := fun v w => unt89 v w
      have ht3 := fun v w => unm89 v w
      cases hh : hit 7
      rotate_left
      · rw [hh] at hag
        obtain ⟨W', hset, hK9, hB9⟩ := HA.out.set 7 c t cl cn cc q p tb wr.heap.size (wr.alloc (.cells #[.pointer none] 89)) (by decide) (by decide) hh (Blk.new wr #[.pointer none] 89) (HBLK.out.2.1.alloc _)
        have hset2 : (ReflectliteValue.set #[rva T ⟨tb, 0, none⟩ fl, rva 89 ⟨wr.heap.size, 0, none⟩ 150]).run Tryz.prog (wr.alloc (.cells #[.pointer none] 89)) = .ok (.tuple #[]) W' := hset
        have hup : (ReflectliteValue.unpack (.iface 89 (.pointer none))).run Tryz.prog wr = .ok (rva 89 ⟨wr.heap.size, 0, none⟩ 150) (wr.alloc (.cells #[.pointer none] 89)) := up89 _ wr
        have HFD := Lib.hid (show some ⟨7, i, c, t, b, cs, kids⟩ = fa1 hit gv e by rw [← HFA.out]; unfold fa1; rw [if_neg (show ¬ ((7 : Int) = 0) by decide), if_pos hh])
        have HK9 := Lib.hid (show Kept (N1 tb) wr W' from ((Kept.refl _ _).alloc _).trans hK9)
        have HB9 := Lib.hid hB9
        clear hset hK9 hB9 hh ht1 ht2 ht3
        go_wp2_with fail
        go_ret
        rw [← HFD.out]
        exact ⟨rfl, (Kept.of' HBW.out).trans HK9.out, _, HEV.out.keep HK9.out (fun _ _ h => h) HLO.out, HB9.out⟩
      · rw [hh] at hag
        have HFD := Lib.hid (show fa1 hit gv e = faL hit gv kids by rw [← HFA.out]; unfold fa1; rw [if_neg (show ¬ ((7 : Int) = 0) by decide), if_neg (by rw [hh]; exact Bool.false_ne_true), if_neg (show ¬ ((7 : Int) = 9 ∧ gv = true) from fun h => absurd h.1 (by decide))])
        clear hh hel
        have HK0 := Lib.hid (show kids = .nil from leaf_kids HR.out (by decide))
        have HFN := Lib.hid (show fa1 hit gv e = none by rw [HFD.out, HK0.out]; rfl)
        go_wp2_with fail
        go_ret
        exact ASP.none HFN.out HBW.out
    · -- kind 8
      clear h1 hk10
      have hve2 : u0 = .iface 108 (.pointer (some ⟨p, 0, none⟩)) := hve
      subst hve2
      clear hve
      have hto := fun v w => to108 v w
      have hag : ∀ w, (ReflectliteType.relation "AssignableTo" ReflectliteType.assignableTo #[.agg #[hdl 108], rty T]).run Tryz.prog w = .ok (.bool (hit 8)) w := fun w => HA.out.asg 8 (by decide) (by decide) w
      have ht1 := fun v w => asa108 v w
      have ht2 := fun v w => unt108 v w
      have ht3 := fun v w => unm108 v w
      cases hh : hit 8
      rotate_left
      · rw [hh] at hag
        obtain ⟨W', hset, hK9, hB9⟩ := HA.out.set 8 c t cl cn cc q p tb wr.heap.size (wr.alloc (.cells #[.pointer (some ⟨p, 0, none⟩)] 108)) (by decide) (by decide) hh (Blk.new wr #[.pointer (some ⟨p, 0, none⟩)] 108) (HBLK.out.2.1.alloc _)
        have hset2 : (ReflectliteValue.set #[rva T ⟨tb, 0, none⟩ fl, rva 108 ⟨wr.heap.size, 0, none⟩ 150]).run Tryz.prog (wr.alloc (.cells #[.pointer (some ⟨p, 0, none⟩)] 108)) = .ok (.tuple #[]) W' := hset
        have hup : (ReflectliteValue.unpack (.iface 108 (.pointer (some ⟨p, 0, none⟩)))).run Tryz.prog wr = .ok (rva 108 ⟨wr.heap.size, 0, none⟩ 150) (wr.alloc (.cells #[.pointer (some ⟨p, 0, none⟩)] 108)) := up108 _ wr
        have HFD := Lib.hid (show some ⟨8, i, c, t, b, cs, kids⟩ = fa1 hit gv e by rw [← HFA.out]; unfold fa1; rw [if_neg (show ¬ ((8 : Int) = 0) by decide), if_pos hh])
        have HK9 := Lib.hid (show Kept (N1 tb) wr W' from ((Kept.refl _ _).alloc _).trans hK9)
        have HB9 := Lib.hid hB9
        clear hset hK9 hB9 hh ht1 ht2 ht3
        go_wp2_with fail
        go_ret
        rw [← HFD.out]
        exact ⟨rfl, (Kept.of' HBW.out).trans HK9.out, _, HEV.out.keep HK9.out (fun _ _ h => h) HLO.out, HB9.out⟩
      · rw [hh] at hag
        have HFD := Lib.hid (show fa1 hit gv e = faL hit gv kids by rw [← HFA.out]; unfold fa1; rw [if_neg (show ¬ ((8 : Int) = 0) by decide), if_neg (by rw [hh]; exact Bool.false_ne_true), if_neg (show ¬ ((8 : Int) = 9 ∧ gv = true) from fun h => absurd h.1 (by decide))])
        clear hh hel
        have hmu := fun v w => m108u v w
        have hkl := like_kids HR.out
        rcases hkl with hkid | ⟨k2, i2, c2, t2, b2, cs2, ks2, hkid⟩
        · subst hkid
          have hn0 : 0 = n := HE.out.2.2.len
          subst hn0
          have HU := Lib.hid (unw187n (HPT.out (.inr (.inr (.inr (.inl rfl))))).1)
          have HFN := Lib.hid (show fa1 hit gv e = none by rw [HFD.out]; rfl)
          go_wp2_with (go_at_call 187; (with_reducible refine HU.out.mono ?_); rintro e2 w2 ⟨rfl, rfl⟩)
          go_ret
          exact ASP.none HFN.out HBW.out
        · subst hkid
          have hr2 := kid_right HR.out
          have hk2 := kid_pos HR.out (by decide)
          have HU := Lib.hid (unw187 (S := S) (N := N1 tb) (HPT.out (.inr (.inr (.inr (.inl rfl))))).1 HE.out.2.2 (fun x e => by have h9 := HBLK.out.2.1.1; unfold N1 at e; rw [e]; exact h9))
          have HFN := Lib.hid (show fa1 hit gv ⟨k2, i2, c2, t2, b2, cs2, ks2⟩ = fa1 hit gv e by rw [HFD.out, faL_one])
          have HK2 := Lib.hid (And.intro hr2 hk2)
          clear hr2 hk2
          go_upto_region 13 with (go_at_call 187; (with_reducible refine HU.out.mono ?_); intro e2 w2 hI; obtain ⟨v2, rfl, hv2, hB2⟩ := hI; have HV2 := Lib.hid hv2; have HB2 := Lib.hid hB2; clear hv2 hB2)
          obtain ⟨u2, y2, hu2⟩ := HV2.out.if' HK2.out.2.1 HK2.out.2.2
          subst hu2
          go_wp2_with fail
          go_roundw
          case rel => exact ⟨ehi ks2, ⟨k2, i2, c2, t2, b2, cs2, ks2⟩, HV2.out, HK2.out.1, HK2.out.2.1, HFN.out, rfl, by have h := HFE.out; simp only [ehi] at h; omega, bel_tr HB.out HB2.out⟩
          case measure =>
            refine Nat.lt_of_le_of_lt (least_le (n := ehi ks2) ⟨⟨k2, i2, c2, t2, b2, cs2, ks2⟩, HV2.out, HK2.out.1, HK2.out.2.1, HFN.out, rfl, by have h := HFE.out; simp only [ehi] at h; omega, bel_tr HB.out HB2.out⟩) ?_
            have h := HFE.out; have h2 := HLE.out; simp only [ehi] at h; omega
    · -- kind 9
      clear h1 hk10
      have hve2 : u0 = .iface 109 (.pointer (some ⟨p, 0, none⟩)) := hve
      subst hve2
      clear hve
      have hto := fun v w => to109 v w
      have hag : ∀ w, (ReflectliteType.relation "AssignableTo" ReflectliteType.assignableTo #[.agg #[hdl 109], rty T]).run Tryz.prog w = .ok (.bool (hit 9)) w := fun w => HA.out.asg 9 (by decide) (by decide) w
      have ht1 := fun v w => asa109 v w
      have ht2 := fun v w => unt109 v w
      have ht3 := fun v w => unm109 v w
      cases hh : hit 9
      rotate_left
      · rw [hh] at hag
        obtain ⟨W', hset, hK9, hB9⟩ := HA.out.set 9 c t cl cn cc q p tb wr.heap.size (wr.alloc (.cells #[.pointer (some ⟨p, 0, none⟩)] 109)) (by decide) (by decide) hh (Blk.new wr #[.pointer (some ⟨p, 0, none⟩)] 109) (HBLK.out.2.1.alloc _)
        have hset2 : (ReflectliteValue.set #[rva T ⟨tb, 0, none⟩ fl, rva 109 ⟨wr.heap.size, 0, none⟩ 150]).run Tryz.prog (wr.alloc (.cells #[.pointer (some ⟨p, 0, none⟩)] 109)) = .ok (.tuple #[]) W' := hset
        have hup : (ReflectliteValue.unpack (.iface 109 (.pointer (some ⟨p, 0, none⟩)))).run Tryz.prog wr = .ok (rva 109 ⟨wr.heap.size, 0, none⟩ 150) (wr.alloc (.cells #[.pointer (some ⟨p, 0, none⟩)] 109)) := up109 _ wr
        have HFD := Lib.hid (show some ⟨9, i, c, t, b, cs, kids⟩ = fa1 hit gv e by rw [← HFA.out]; unfold fa1; rw [if_neg (show ¬ ((9 : Int) = 0) by decide), if_pos hh])
        have HK9 := Lib.hid (show Kept (N1 tb) wr W' from ((Kept.refl _ _).alloc _).trans hK9)
        have HB9 := Lib.hid hB9
        clear hset hK9 hB9 hh ht1 ht2 ht3
        go_wp2_with fail
        go_ret
        rw [← HFD.out]
        exact ⟨rfl, (Kept.of' HBW.out).trans HK9.out, _, HEV.out.keep HK9.out (fun _ _ h => h) HLO.out, HB9.out⟩
      · rw [hh] at hag
        have HFD := Lib.hid (show fa1 hit gv e = if (9 : Int) = 9 ∧ gv = true then some ⟨1, 0, c, t, Dt.zero, [], .nil⟩ else faL hit gv kids by rw [← HFA.out]; unfold fa1; rw [if_neg (show ¬ ((9 : Int) = 0) by decide), if_neg (by rw [hh]; exact Bool.false_ne_true)])
        clear hh hel
        have hma := fun v w => m109a v w
        have HG := Lib.hid (HA.out.give p tb wr 9 i c t b bl bn bc cl cn cc l n cap (HPT.out (.inr (.inr (.inr (.inr rfl))))).1 HBLK.out.2.1)
        have HGI := Lib.hid HA.out.gi
        rcases Bool.eq_false_or_eq_true gv with hg | hg
        · subst hg
          have HFD2 := Lib.hid (show fa1 hit true e = some ⟨1, 0, c, t, Dt.zero, [], .nil⟩ by rw [HFD.out, if_pos ⟨rfl, rfl⟩])
          have hif : ifc = false := HGI.out rfl
          subst hif
          go_wp2_with (go_at_call 191; (with_reducible refine HG.out.mono ?_); intro e2 w2 hI; obtain ⟨rfl, hK2, hT2⟩ := GVP.yes hI; have HK2 := Lib.hid hK2; have HT2 := Lib.hid hT2; clear hI hK2 hT2)
          go_ret
          rw [HFD2.out]
          exact ⟨rfl, (Kept.of' HBW.out).trans HK2.out, .iface 101 (.agg #[.int .i64 c, .string ⟨t.toArray⟩]), plain_at, HT2.out⟩
        · subst hg
          have HK0 := Lib.hid (show kids = .nil from leaf_kids HR.out (by decide))
          have HFN := Lib.hid (show fa1 hit false e = none by rw [HFD.out, if_neg (fun h => Bool.false_ne_true h.2), HK0.out]; rfl)
          go_wp2_with (go_at_call 191; (with_reducible refine HG.out.mono ?_); intro e2 w2 hI; obtain ⟨rfl, rfl⟩ := GVP.no hI; clear hI)
          go_ret
          exact ASP.none HFN.out HBW.out
    · -- kind 10
      clear h1 hk10
      have hve2 : u0 = .iface 110 (.agg #[.int .i64 c, .string ⟨t.toArray⟩]) := hve
      subst hve2
      clear hve
      have hto := fun v w => to110 v w
      have hag : ∀ w, (ReflectliteType.relation "AssignableTo" ReflectliteType.assignableTo #[.agg #[hdl 110], rty T]).run Tryz.prog w = .ok (.bool (hit 10)) w := fun w => HA.out.asg 10 (by decide) (by decide) w
      have ht1 := fun v w => asa110 v w
      have ht2 := fun v w => unt110 v w
      have ht3 := fun v w => unm110 v w
      cases hh : hit 10
      rotate_left
      · rw [hh] at hag
        obtain ⟨W', hset, hK9, hB9⟩ := HA.out.set 10 c t cl cn cc q p tb wr.heap.size (wr.alloc (.cells #[.int .i64 c, .string ⟨t.toArray⟩] 110)) (by decide) (by decide) hh (Blk.new wr #[.int .i64 c, .string ⟨t.toArray⟩] 110) (HBLK.out.2.1.alloc _)
        have hset2 : (ReflectliteValue.set #[rva T ⟨tb, 0, none⟩ fl, rva 110 ⟨wr.heap.size, 0, none⟩ 153]).run Tryz.prog (wr.alloc (.cells #[.int .i64 c, .string ⟨t.toArray⟩] 110)) = .ok (.tuple #[]) W' := hset
        have hup : (ReflectliteValue.unpack (.iface 110 (.agg #[.int .i64 c, .string ⟨t.toArray⟩]))).run Tryz.prog wr = .ok (rva 110 ⟨wr.heap.size, 0, none⟩ 153) (wr.alloc (.cells #[.int .i64 c, .string ⟨t.toArray⟩] 110)) := up110 _ _ wr
        have HFD := Lib.hid (show some ⟨10, i, c, t, b, cs, kids⟩ = fa1 hit gv e by rw [← HFA.out]; unfold fa1; rw [if_neg (show ¬ ((10 : Int) = 0) by decide), if_pos hh])
        have HK9 := Lib.hid (show Kept (N1 tb) wr W' from ((Kept.refl _ _).alloc _).trans hK9)
        have HB9 := Lib.hid hB9
        clear hset hK9 hB9 hh ht1 ht2 ht3
        go_wp2_with fail
        go_ret
        rw [← HFD.out]
        exact ⟨rfl, (Kept.of' HBW.out).trans HK9.out, _, HEV.out.keep HK9.out (fun _ _ h => h) HLO.out, HB9.out⟩
      · rw [hh] at hag
        have HFD := Lib.hid (show fa1 hit gv e = faL hit gv kids by rw [← HFA.out]; unfold fa1; rw [if_neg (show ¬ ((10 : Int) = 0) by decide), if_neg (by rw [hh]; exact Bool.false_ne_true), if_neg (show ¬ ((10 : Int) = 9 ∧ gv = true) from fun h => absurd h.1 (by decide))])
        clear hh hel
        have HK0 := Lib.hid (show kids = .nil from leaf_kids HR.out (by decide))
        have HFN := Lib.hid (show fa1 hit gv e = none by rw [HFD.out, HK0.out]; rfl)
        go_wp2_with fail
        go_ret
        exact ASP.none HFN.out HBW.out
end Go.Proofs.YtbldidiibkcelaaGreatDoor

/-
  The types that errors.As is asked for (runs). Not a statement of the seat.
-/
namespace Go.Proofs.YtbldidiibkcelaaGreatDoor
open Go.RowKit Go.Extern.Stop Go.Stop Go.Extern

theorem kept1 {tb : Nat} {W : World} (a : Nat) (v : Value) : Kept (N1 tb) W (W.setCell ⟨tb, a, none⟩ v) := (Kept.refl _ _).put v (fun _ => rfl)
set_option maxRecDepth 100000 in
set_option maxHeartbeats 4000000 in
theorem giveNo {PT tb : Nat} {old : List Value} (h : ∀ v w, (Instr.typeAssert (.iface PT v) 20 165 true).run Tryz.prog w = .ok (.tuple #[.pointer none, .bool false]) w) (p : Nat) (W : World) (k i c : Int) (t : Bs) (b : Dt) (bl : Option Addr) (bn bc : Nat) (cl : Option Addr) (cn cc : Nat) (l : Option Addr) (n cap : Nat) (_ : Blk W p (V11 k i c t b bl bn bc cl cn cc l n cap)) (_ : Blk W tb old) :
    Calls Tryz.prog 191 #[.pointer (some ⟨p, 0, none⟩), .iface PT (.pointer (some ⟨tb, 0, none⟩))] W (GVP false tb c t W) := by
  have h1 := fun v w => h v w
  go_enter Tryz.func191, Tryz.ntmps191
  go_wp2_with fail
  go_ret
  unfold GVP
  exact ⟨rfl, rfl⟩
theorem GVP.mk {tb : Nat} {c : Int} {t : Bs} {W : World} {r : Ending} {W' : World} (h1 : r = .returned (.bool true)) (h2 : Kept (N1 tb) W W') (h3 : Blk W' tb [.int .i64 c, .string ⟨t.toArray⟩]) : GVP true tb c t W r W' := ⟨h1, h2, h3⟩
theorem po92 : PtO 92 94 404 := ⟨fun _ _ => by kernel_rfl, fun _ => by kernel_rfl, fun _ => by kernel_rfl, fun _ _ => by kernel_rfl⟩
theorem va92_110 : VaO 92 110 404 153 404 153 true 2 1 := ⟨fun _ _ => by kernel_rfl, fun _ _ => by kernel_rfl, fun _ => by kernel_rfl, fun _ => by kernel_rfl, fun _ => by kernel_rfl, by decide⟩
theorem po96 : PtO 96 97 404 := ⟨fun _ _ => by kernel_rfl, fun _ => by kernel_rfl, fun _ => by kernel_rfl, fun _ _ => by kernel_rfl⟩
theorem va96_101 : VaO 96 101 404 153 404 153 true 2 1 := ⟨fun _ _ => by kernel_rfl, fun _ _ => by kernel_rfl, fun _ => by kernel_rfl, fun _ => by kernel_rfl, fun _ => by kernel_rfl, by decide⟩
theorem va96_110 : VaO 96 110 404 153 404 153 true 2 1 := ⟨fun _ _ => by kernel_rfl, fun _ _ => by kernel_rfl, fun _ => by kernel_rfl, fun _ => by kernel_rfl, fun _ => by kernel_rfl, by decide⟩
theorem ty92 : TyI 92 91 #[("Timeout", 31)] := tyi (fun _ => by kernel_rfl) (fun _ _ => by kernel_rfl) (by kernel_rfl) (by kernel_rfl)
theorem ty96 : TyI 96 95 #[("Code", 98)] := tyi (fun _ => by kernel_rfl) (fun _ _ => by kernel_rfl) (by kernel_rfl) (by kernel_rfl)
theorem lk92_101 : (Tryz.prog.info? 101).map (fun i => (lacking #[("Timeout", 31)] i.methods).isEmpty) = some false := by kernel_rfl
theorem lk92_89 : (Tryz.prog.info? 89).map (fun i => (lacking #[("Timeout", 31)] i.methods).isEmpty) = some false := by kernel_rfl
theorem lk92_102 : (Tryz.prog.info? 102).map (fun i => (lacking #[("Timeout", 31)] i.methods).isEmpty) = some false := by kernel_rfl
theorem lk92_103 : (Tryz.prog.info? 103).map (fun i => (lacking #[("Timeout", 31)] i.methods).isEmpty) = some false := by kernel_rfl
theorem lk92_106 : (Tryz.prog.info? 106).map (fun i => (lacking #[("Timeout", 31)] i.methods).isEmpty) = some false := by kernel_rfl
theorem lk92_107 : (Tryz.prog.info? 107).map (fun i => (lacking #[("Timeout", 31)] i.methods).isEmpty) = some false := by kernel_rfl
theorem lk92_108 : (Tryz.prog.info? 108).map (fun i => (lacking #[("Timeout", 31)] i.methods).isEmpty) = some false := by kernel_rfl
theorem lk92_109 : (Tryz.prog.info? 109).map (fun i => (lacking #[("Timeout", 31)] i.methods).isEmpty) = some false := by kernel_rfl
theorem lk92_110 : (Tryz.prog.info? 110).map (fun i => (lacking #[("Timeout", 31)] i.methods).isEmpty) = some true := by kernel_rfl
theorem lk96_101 : (Tryz.prog.info? 101).map (fun i => (lacking #[("Code", 98)] i.methods).isEmpty) = some true := by kernel_rfl
theorem lk96_89 : (Tryz.prog.info? 89).map (fun i => (lacking #[("Code", 98)] i.methods).isEmpty) = some false := by kernel_rfl
theorem lk96_102 : (Tryz.prog.info? 102).map (fun i => (lacking #[("Code", 98)] i.methods).isEmpty) = some false := by kernel_rfl
theorem lk96_103 : (Tryz.prog.info? 103).map (fun i => (lacking #[("Code", 98)] i.methods).isEmpty) = some false := by kernel_rfl
theorem lk96_106 : (Tryz.prog.info? 106).map (fun i => (lacking #[("Code", 98)] i.methods).isEmpty) = some false := by kernel_rfl
theorem lk96_107 : (Tryz.prog.info? 107).map (fun i => (lacking #[("Code", 98)] i.methods).isEmpty) = some false := by kernel_rfl
theorem lk96_108 : (Tryz.prog.info? 108).map (fun i => (lacking #[("Code", 98)] i.methods).isEmpty) = some false := by kernel_rfl
theorem lk96_109 : (Tryz.prog.info? 109).map (fun i => (lacking #[("Code", 98)] i.methods).isEmpty) = some false := by kernel_rfl
theorem lk96_110 : (Tryz.prog.info? 110).map (fun i => (lacking #[("Code", 98)] i.methods).isEmpty) = some true := by kernel_rfl
theorem kd101 (w : World) : (Rtype.kind 101).run Tryz.prog w = .ok 25 w := by kernel_rfl
theorem kd110 (w : World) : (Rtype.kind 110).run Tryz.prog w = .ok 25 w := by kernel_rfl
theorem np92 (v : Value) (w : World) : (Instr.typeAssert (.iface 94 v) 20 165 true).run Tryz.prog w = .ok (.tuple #[.pointer none, .bool false]) w := by kernel_rfl
theorem np96 (v : Value) (w : World) : (Instr.typeAssert (.iface 97 v) 20 165 true).run Tryz.prog w = .ok (.tuple #[.pointer none, .bool false]) w := by kernel_rfl
def hitF (m : Int) (k : Int) : Bool := hasK k m
theorem aty92 : ATy 92 94 404 true false (hitF 0) [.nilIface] where
  po := po92
  asg := by
    intro k h1 h2 w
    rcases kinds_cases k with rfl | rfl | rfl | rfl | rfl | rfl | rfl | rfl | rfl | rfl | ⟨z1, z2, z3, z4, z5, z6, z7, z8, z9, z10⟩
    · exact asg_if ty92 ty101 (by decide) (by decide) (by decide) lk92_101 w
    · exact asg_if ty92 ty89 (by decide) (by decide) (by decide) lk92_89 w
    · exact asg_if ty92 ty102 (by decide) (by decide) (by decide) lk92_102 w
    · exact asg_if ty92 ty103 (by decide) (by decide) (by decide) lk92_103 w
    · exact asg_if ty92 ty106 (by decide) (by decide) (by decide) lk92_106 w
    · exact asg_if ty92 ty107 (by decide) (by decide) (by decide) lk92_107 w
    · exact asg_if ty92 ty89 (by decide) (by decide) (by decide) lk92_89 w
    · exact asg_if ty92 ty108 (by decide) (by decide) (by decide) lk92_108 w
    · exact asg_if ty92 ty109 (by decide) (by decide) (by decide) lk92_109 w
    · exact asg_if ty92 ty110 (by decide) (by decide) (by decide) lk92_110 w
    · omega
  set := by
    intro k c t cl cn cc q p tb b W h1 h2 hh hB hT
    rcases kinds_cases k with rfl | rfl | rfl | rfl | rfl | rfl | rfl | rfl | rfl | rfl | ⟨z1, z2, z3, z4, z5, z6, z7, z8, z9, z10⟩
    · exact absurd hh (by decide)
    · exact absurd hh (by decide)
    · exact absurd hh (by decide)
    · exact absurd hh (by decide)
    · exact absurd hh (by decide)
    · exact absurd hh (by decide)
    · exact absurd hh (by decide)
    · exact absurd hh (by decide)
    · exact absurd hh (by decide)
    · have hB2 : Blk W b [.int .i64 c, .string ⟨t.toArray⟩] := hB
      exact ⟨_, set_if va92_110 ty92 ty110 (by decide) (by decide) (by decide) kd110 (by decide) lk92_110 hB2 hT, kept1 0 _, blk_set1 hT⟩
    · omega
  give := by
    intro p tb W k i c t b bl bn bc cl cn cc l n cap hP hT
    exact giveNo np92 p W k i c t b bl bn bc cl cn cc l n cap hP hT
  gi := by intro h; first | rfl | cases h
theorem aty96 : ATy 96 97 404 true false (hitF 2) [.nilIface] where
  po := po96
  asg := by
    intro k h1 h2 w
    rcases kinds_cases k with rfl | rfl | rfl | rfl | rfl | rfl | rfl | rfl | rfl | rfl | ⟨z1, z2, z3, z4, z5, z6, z7, z8, z9, z10⟩
    · exact asg_if ty96 ty101 (by decide) (by decide) (by decide) lk96_101 w
    · exact asg_if ty96 ty89 (by decide) (by decide) (by decide) lk96_89 w
    · exact asg_if ty96 ty102 (by decide) (by decide) (by decide) lk96_102 w
    · exact asg_if ty96 ty103 (by decide) (by decide) (by decide) lk96_103 w
    · exact asg_if ty96 ty106 (by decide) (by decide) (by decide) lk96_106 w
    · exact asg_if ty96 ty107 (by decide) (by decide) (by decide) lk96_107 w
    · exact asg_if ty96 ty89 (by decide) (by decide) (by decide) lk96_89 w
    · exact asg_if ty96 ty108 (by decide) (by decide) (by decide) lk96_108 w
    · exact asg_if ty96 ty109 (by decide) (by decide) (by decide) lk96_109 w
    · exact asg_if ty96 ty110 (by decide) (by decide) (by decide) lk96_110 w
    · omega
  set := by
    intro k c t cl cn cc q p tb b W h1 h2 hh hB hT
    rcases kinds_cases k with rfl | rfl | rfl | rfl | rfl | rfl | rfl | rfl | rfl | rfl | ⟨z1, z2, z3, z4, z5, z6, z7, z8, z9, z10⟩
    · have hB2 : Blk W b [.int .i64 c, .string ⟨t.toArray⟩] := hB
      exact ⟨_, set_if va96_101 ty96 ty101 (by decide) (by decide) (by decide) kd101 (by decide) lk96_101 hB2 hT, kept1 0 _, blk_set1 hT⟩
    · exact absurd hh (by decide)
    · exact absurd hh (by decide)
    · exact absurd hh (by decide)
    · exact absurd hh (by decide)
    · exact absurd hh (by decide)
    · exact absurd hh (by decide)
    · exact absurd hh (by decide)
    · exact absurd hh (by decide)
    · have hB2 : Blk W b [.int .i64 c, .string ⟨t.toArray⟩] := hB
      exact ⟨_, set_if va96_110 ty96 ty110 (by decide) (by decide) (by decide) kd110 (by decide) lk96_110 hB2 hT, kept1 0 _, blk_set1 hT⟩
    · omega
  give := by
    intro p tb W k i c t b bl bn bc cl cn cc l n cap hP hT
    exact giveNo np96 p W k i c t b bl bn bc cl cn cc l n cap hP hT
  gi := by intro h; first | rfl | cases h
end Go.Proofs.YtbldidiibkcelaaGreatDoor

