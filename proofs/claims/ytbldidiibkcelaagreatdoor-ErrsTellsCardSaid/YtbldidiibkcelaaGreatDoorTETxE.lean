/-
  Error of an error value, kind by kind (walks). Not a statement of the seat.
-/
import Derived.Test.YtbldidiibkcelaaGreatDoorTETxM
namespace Go.Proofs.YtbldidiibkcelaaGreatDoor
open Go.RowKit

def errf (D : Nat) : Nat := if D = 101 then 146 else if D = 89 then 143 else if D = 102 then 148 else if D = 103 then 152 else if D = 106 then 163 else if D = 107 then 183 else if D = 108 then 185 else if D = 109 then 192 else 195
def MethE (v : Value) (K : FuncId) (rv : Value) : Prop := ∃ T x, v = .iface T x ∧ (∀ w, (method 389 T x "Error").run Tryz.prog w = .ok (K, rv) w) ∧ (∀ (args : Array Value) (w : World), (callFunc K args).run Tryz.prog w = .ok (.enter K args) w) ∧ ∀ w, (nilAhead 389 T x "Error").run Tryz.prog w = .ok (some false) w
theorem ce146 (args : Array Value) (w : World) : (callFunc 146 args).run Tryz.prog w = .ok (.enter 146 args) w := by kernel_rfl
theorem ce143 (args : Array Value) (w : World) : (callFunc 143 args).run Tryz.prog w = .ok (.enter 143 args) w := by kernel_rfl
theorem ce148 (args : Array Value) (w : World) : (callFunc 148 args).run Tryz.prog w = .ok (.enter 148 args) w := by kernel_rfl
theorem ce152 (args : Array Value) (w : World) : (callFunc 152 args).run Tryz.prog w = .ok (.enter 152 args) w := by kernel_rfl
theorem ce163 (args : Array Value) (w : World) : (callFunc 163 args).run Tryz.prog w = .ok (.enter 163 args) w := by kernel_rfl
theorem ce183 (args : Array Value) (w : World) : (callFunc 183 args).run Tryz.prog w = .ok (.enter 183 args) w := by kernel_rfl
theorem ce185 (args : Array Value) (w : World) : (callFunc 185 args).run Tryz.prog w = .ok (.enter 185 args) w := by kernel_rfl
theorem ce192 (args : Array Value) (w : World) : (callFunc 192 args).run Tryz.prog w = .ok (.enter 192 args) w := by kernel_rfl
theorem ce195 (args : Array Value) (w : World) : (callFunc 195 args).run Tryz.prog w = .ok (.enter 195 args) w := by kernel_rfl
theorem meth101 (x y : Value) : MethE (.iface 101 (.agg #[x, y])) 146 (.agg #[x, y]) := ⟨101, (.agg #[x, y]), rfl, fun _ => by kernel_rfl, ce146, fun _ => by kernel_rfl⟩
theorem meth89 (a : Option Addr) : MethE (.iface 89 (.pointer a)) 143 (.pointer a) := ⟨89, (.pointer a), rfl, fun _ => by kernel_rfl, ce143, fun _ => by kernel_rfl⟩
theorem meth102 (a : Addr) : MethE (.iface 102 (.pointer (some a))) 148 (.pointer (some a)) := ⟨102, (.pointer (some a)), rfl, fun _ => by kernel_rfl, ce148, fun _ => by kernel_rfl⟩
theorem meth103 (a : Addr) : MethE (.iface 103 (.pointer (some a))) 152 (.pointer (some a)) := ⟨103, (.pointer (some a)), rfl, fun _ => by kernel_rfl, ce152, fun _ => by kernel_rfl⟩
theorem meth106 (x : Value) : MethE (.iface 106 (.agg #[x])) 163 (.agg #[x]) := ⟨106, (.agg #[x]), rfl, fun _ => by kernel_rfl, ce163, fun _ => by kernel_rfl⟩
theorem meth107 (a : Option Addr) (n c : Nat) : MethE (.iface 107 (.slice a n c)) 183 (.slice a n c) := ⟨107, (.slice a n c), rfl, fun _ => by kernel_rfl, ce183, fun _ => by kernel_rfl⟩
theorem meth108 (a : Addr) : MethE (.iface 108 (.pointer (some a))) 185 (.pointer (some a)) := ⟨108, (.pointer (some a)), rfl, fun _ => by kernel_rfl, ce185, fun _ => by kernel_rfl⟩
theorem meth109 (a : Addr) : MethE (.iface 109 (.pointer (some a))) 192 (.pointer (some a)) := ⟨109, (.pointer (some a)), rfl, fun _ => by kernel_rfl, ce192, fun _ => by kernel_rfl⟩
theorem meth110 (x y : Value) : MethE (.iface 110 (.agg #[x, y])) 195 (.agg #[x, y]) := ⟨110, (.agg #[x, y]), rfl, fun _ => by kernel_rfl, ce195, fun _ => by kernel_rfl⟩
/-- a text has come back, or it panicked -/
def TXP : Option Bs → World → Ending → World → Prop
  | some s, w, r, w' => r = .returned (.string ⟨s.toArray⟩) ∧ Below w.heap.size w w'
  | none, w, r, w' => (∃ u pv, r = .panicked [{ v := .iface u pv, recovered := false }]) ∧ Below w.heap.size w w'
theorem TXP.s {s : Bs} {w w' : World} {r : Ending} (h : TXP (some s) w r w') : r = .returned (.string ⟨s.toArray⟩) ∧ Below w.heap.size w w' := h
theorem TXP.n {w w' : World} {r : Ending} (h : TXP none w r w') : (∃ u pv, r = .panicked [{ v := .iface u pv, recovered := false }]) ∧ Below w.heap.size w w' := h
theorem TXP.ahead {o : Option Bs} {w w1 w' : World} {r : Ending} (hB : Below w.heap.size w w1) (h : TXP o w1 r w') : TXP o w r w' := by
  cases o with
  | none => exact ⟨h.1, bel_tr hB h.2⟩
  | some s => exact ⟨h.1, bel_tr hB h.2⟩
set_option maxRecDepth 100000 in
theorem err146 (c : Int) (t : Bs) (w : World) : Calls Tryz.prog 146 #[.agg #[.int .i64 c, .string ⟨t.toArray⟩]] w (TXP (some t) w) := by
  have hA := Blk.new w #[.int .i64 c, .string ⟨t.toArray⟩] 101
  have hB : Below w.heap.size w (w.alloc (.cells #[.int .i64 c, .string ⟨t.toArray⟩] 101)) := (Below.refl _ _).alloc (Nat.le_refl _) _
  have HB := Lib.hid hB
  clear hB
  go_enter Tryz.func146, Tryz.ntmps146
  go_upto_region 1 with (fail)
  generalize w.alloc (.cells #[.int .i64 c, .string ⟨t.toArray⟩] 101) = w1 at *
  have c0 := hA.cell 0 rfl; have c1 := hA.cell 1 rfl
  go_wp2_with fail
  go_ret
  exact ⟨rfl, HB.out⟩
set_option maxRecDepth 100000 in
theorem err195 (c : Int) (t : Bs) (w : World) : Calls Tryz.prog 195 #[.agg #[.int .i64 c, .string ⟨t.toArray⟩]] w (TXP (some t) w) := by
  have hA := Blk.new w #[.int .i64 c, .string ⟨t.toArray⟩] 110
  have hB : Below w.heap.size w (w.alloc (.cells #[.int .i64 c, .string ⟨t.toArray⟩] 110)) := (Below.refl _ _).alloc (Nat.le_refl _) _
  have HB := Lib.hid hB
  clear hB
  go_enter Tryz.func195, Tryz.ntmps195
  go_upto_region 1 with (fail)
  generalize w.alloc (.cells #[.int .i64 c, .string ⟨t.toArray⟩] 110) = w1 at *
  have c0 := hA.cell 0 rfl; have c1 := hA.cell 1 rfl
  go_wp2_with fail
  go_ret
  exact ⟨rfl, HB.out⟩
set_option maxRecDepth 100000 in
theorem err143 {p : Nat} {w : World} {k i c : Int} {t : Bs} {b : Dt} {bl : Option Addr} {bn bc : Nat} {cl : Option Addr} {cn cc : Nat} {l : Option Addr} {n cap : Nat} (hW : Blk w p (V11 k i c t b bl bn bc cl cn cc l n cap)) : Calls Tryz.prog 143 #[.pointer (some ⟨p, 0, none⟩)] w (TXP (some t) w) := by
  have x3 := hW.cell 3 rfl
  clear hW
  go_enter Tryz.func143, Tryz.ntmps143
  go_wp2_with fail
  go_ret
  exact ⟨rfl, Below.refl _ _⟩
set_option maxRecDepth 100000 in
theorem err192 {p : Nat} {w : World} {k i c : Int} {t : Bs} {b : Dt} {bl : Option Addr} {bn bc : Nat} {cl : Option Addr} {cn cc : Nat} {l : Option Addr} {n cap : Nat} (hW : Blk w p (V11 k i c t b bl bn bc cl cn cc l n cap)) : Calls Tryz.prog 192 #[.pointer (some ⟨p, 0, none⟩)] w (TXP (some t) w) := by
  have x3 := hW.cell 3 rfl
  clear hW
  go_enter Tryz.func192, Tryz.ntmps192
  go_wp2_with fail
  go_ret
  exact ⟨rfl, Below.refl _ _⟩
theorem cat3 (t s : Bs) : ((⟨t.toArray⟩ : ByteArray) ++ (⟨#[58, 32]⟩ : ByteArray)) ++ (⟨s.toArray⟩ : ByteArray) = ⟨(t ++ 58 :: 32 :: s).toArray⟩ := by
  apply ByteArray.ext
  simp
set_option maxRecDepth 100000 in
theorem err143n (w : World) : Calls Tryz.prog 143 #[.pointer none] w (TXP none w) := by
  go_enter Tryz.func143, Tryz.ntmps143
  go_wp2_with fail
  exact ⟨rfl, ⟨_, _, rfl⟩, Below.refl _ _⟩
set_option maxRecDepth 100000 in
set_option maxHeartbeats 4000000 in
theorem err163 {q : Nat} {S : Nat → Prop} {w : World} {k i c : Int} {t : Bs} {b : Dt} {bl : Option Addr} {bn bc : Nat} {cl : Option Addr} {cn cc : Nat} {l : Option Addr} {n cap : Nat} (hW : Blk w q (V11 k i c t b bl bn bc cl cn cc l n cap)) (hF : FoAt S w b.l bl bn bc) (hS : ∀ x, S x → x < w.heap.size) (hL : Lb w) (hp : b.fo.plain) (hw : b.fo.wt ≤ big) : Calls Tryz.prog 163 #[.agg #[.pointer (some ⟨q, 0, none⟩)]] w (TXP (some (printM b)) w) := by
  have hA := Blk.new w #[.pointer (some ⟨q, 0, none⟩)] 106
  have hB : Below w.heap.size w (w.alloc (.cells #[.pointer (some ⟨q, 0, none⟩)] 106)) := (Below.refl _ _).alloc (Nat.le_refl _) _
  have hX := hW.below hB
  have HC := Lib.hid (printN (hF.same (w' := w.alloc (.cells #[.pointer (some ⟨q, 0, none⟩)] 106)) (fun x _ hl => hB.block x hl) (fun x hx _ => hx)) (fun x hx => Nat.lt_of_lt_of_le (hS x hx) hB.size) (hL.below hB hL.size) hp hw)
  have HB := Lib.hid hB
  clear hB hW hF hS hL hp hw
  go_enter Tryz.func163, Tryz.ntmps163
  go_upto_region 1 with (fail)
  generalize w.alloc (.cells #[.pointer (some ⟨q, 0, none⟩)] 106) = w1 at *
  have c0 := hA.cell 0 rfl
  have x4 := hX.cell 4 rfl; have x5 := hX.cell 5 rfl; have x6 := hX.cell 6 rfl; have x7 := hX.cell 7 rfl; have x8 := hX.cell 8 rfl
  clear hA hX
  go_wp2_with (go_at_call 165; (with_reducible refine HC.out.mono ?_); rintro r2 w2 ⟨rfl, hB2⟩; have HB2 := Lib.hid (bel_tr HB.out hB2); clear hB2)
  go_ret
  exact ⟨rfl, HB2.out⟩
set_option maxRecDepth 100000 in
theorem behindNil (t : Value) (w : World) : Calls Tryz.prog 151 #[t, .nilIface] w (fun r w' => r = .returned t ∧ Below w.heap.size w w') := by
  go_enter Tryz.func151, Tryz.ntmps151
  go_wp2_with fail
  go_ret
  exact ⟨rfl, Below.refl _ _⟩
set_option maxRecDepth 100000 in
set_option maxHeartbeats 4000000 in
theorem behindN {v rv : Value} {K : FuncId} {t : Bs} {o : Option Bs} {w : World} (hM : MethE v K rv) (ht : t.length ≤ 65535) (ho : ∀ s, o = some s → s.length ≤ 140737488355328) (hC : ∀ wx, Below w.heap.size w wx → Calls Tryz.prog K #[rv] wx (TXP o wx)) :
    Calls Tryz.prog 151 #[.string ⟨t.toArray⟩, v] w (TXP (o.map (fun s => t ++ 58 :: 32 :: s)) w) := by
  obtain ⟨T, x, rfl, hm, hcf, hna⟩ := hM
  have HC := Lib.hid hC
  have HO := Lib.hid ho
  clear hC ho
  have hn1 : ¬ 9223372036854775807 < t.length + 2 := by omega
  cases o with
  | none =>
    go_enter Tryz.func151, Tryz.ntmps151
    go_wp2_with fail
    refine (HC.out _ (Below.refl _ _)).mono ?_
    intro r w' h
    obtain ⟨⟨u, pv, rfl⟩, hB⟩ := h.n
    exact ⟨rfl, ⟨u, pv, rfl⟩, hB⟩
  | some s =>
    have hs := HO.out s rfl
    have hn2 : ¬ 9223372036854775807 < t.length + 2 + s.length := by omega
    go_enter Tryz.func151, Tryz.ntmps151
    go_wp2_with fail
    refine (HC.out _ (Below.refl _ _)).mono ?_
    intro r w' h
    obtain ⟨rfl, hB⟩ := h.s
    have HB := Lib.hid hB
    clear h hB
    go_wp2_with fail
    go_ret
    refine ⟨?_, HB.out⟩
    show Ending.returned (.string _) = Ending.returned (.string _)
    rw [cat3]
end Go.Proofs.YtbldidiibkcelaaGreatDoor

