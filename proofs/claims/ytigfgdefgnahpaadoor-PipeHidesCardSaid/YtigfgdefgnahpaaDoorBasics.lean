/-
  The walks of cut, room, end (the code's) and end (the document's). Not a statement of the seat.
-/
import Derived.Test.YtigfgdefgnahpaaDoorModel
import Derived.Test.YtigfgdefgnahpaaDoorZero
import Derived.RegionTactic
import Derived.ChangeAlike
import Derived.Deep.QuietTactic
import Derived.BigQuiet
namespace Go.Proofs.YtigfgdefgnahpaaDoor
open Go.RowKit

theorem cutN {zs : List Int} {a : Option Addr} {n cap k m x : Nat} {w : World} (h : Nums w a n cap zs) (hz : ∀ z ∈ zs, 0 ≤ z ∧ z ≤ 65535) (hm : m ≤ 1000000) (_hk : k < 1000000000000) (hx : cutM zs k m = x) :
    Calls Tryd.prog 83 #[.slice a n cap, .int .i64 k, .int .i64 m] w (fun e w' => e = .returned (.int .i64 x) ∧ w' = w) := by
  have hlen := h.len
  by_cases h0 : n = 0
  · subst h0
    have hx' : x = m := by unfold cutM at hx; rw [if_pos hlen] at hx; exact hx.symm
    subst hx'
    clear h hlen hx hz
    go_enter Tryd.func83, Tryd.ntmps83
    go_wp2
    go_ret
    exact ⟨rfl, rfl⟩
  · obtain ⟨hcap, hmax⟩ := h.bounds
    have hkl : k % n < n := Nat.mod_lt _ (by omega)
    obtain ⟨b, off, rfl, hb, e0⟩ := h.at hkl
    unfold cutM at hx
    rw [if_neg (by omega), hlen] at hx
    have hz1 : 0 ≤ (zs[k % n]?).getD 0 ∧ (zs[k % n]?).getD 0 ≤ 65535 := by
      have : k % n < zs.length := by omega
      simp only [List.getElem?_eq_getElem this, Option.getD_some]
      exact hz _ (List.getElem_mem _)
    generalize (zs[k % n]?).getD 0 = z at e0 hx hz1
    obtain ⟨hz0, hz2⟩ := hz1
    have h1 : (if (m : Int) < z then (m : Int) else z) = x := by rw [← hx]; split <;> omega
    have h2 : (if z < (m : Int) then z else (m : Int)) = x := by rw [← hx]; split <;> omega
    have hmd : ((k : Int)).tmod (n : Int) = ((k % n : Nat) : Int) := by rw [Int.ofNat_tmod]
    have hlt : ((k % n : Nat) : Int) < (n : Int) := by omega
    have hge : (0 : Int) ≤ ((k % n : Nat) : Int) := by omega
    generalize k % n = d at *
    have hp : (0 : Int) < (n : Int) := by omega
    clear h hlen hx hz hz0 hz2
    go_enter Tryd.func83, Tryd.ntmps83
    go_wp2
    go_ret
    exact ⟨rfl, rfl⟩

theorem roomN {b hn : Nat} {ha : Option Addr} {hc : Nat} {room : Int} {w : World} (c1 : w.cell? ⟨b, 1, none⟩ = some (.int .i64 room)) (c5 : w.cell? ⟨b, 5, none⟩ = some (.slice ha hn hc)) (h1 : -1 ≤ room) (h2 : room ≤ 65535) (h3 : hn ≤ 1000000) :
    Calls Tryd.prog 84 #[.pointer (some ⟨b, 0, none⟩)] w (fun e w' => e = .returned (.int .i64 (room - hn)) ∧ ∃ m, w' = w.drewN m) := by
  go_enter Tryd.func84, Tryd.ntmps84
  go_wp2
  go_quiet (fail)
  go_wp2
  go_ret
  exact ⟨rfl, _, rfl⟩

/-- all pairs, one after the other -/
def cant : Nat → Nat × Nat
  | 0 => (0, 0)
  | n + 1 => match cant n with
    | (0, y) => (y + 1, 0)
    | (x + 1, y) => (x, y + 1)
theorem cant_onto : ∀ (k y x : Nat), x + y = k → ∃ n, cant n = (x, y)
  | 0, y, x, h => ⟨0, by simp only [cant, Prod.mk.injEq]; omega⟩
  | k + 1, 0, x, h => by
    obtain ⟨n, hn⟩ := cant_onto k k 0 (by omega)
    have hx : x = k + 1 := by omega
    subst hx
    exact ⟨n + 1, by simp only [cant, hn]⟩
  | k + 1, y + 1, x, h => by
    obtain ⟨n, hn⟩ := cant_onto (k + 1) y (x + 1) (by omega)
    exact ⟨n + 1, by simp only [cant, hn]⟩
/-- all addresses, one after the other -/
def adr (n : Nat) : Addr := ⟨(cant n).1, (cant (cant n).2).1, match (cant (cant n).2).2 with
  | 0 => none
  | k + 1 => some k⟩
theorem adr_onto (a : Addr) : ∃ n, adr n = a := by
  obtain ⟨b, o, s⟩ := a
  obtain ⟨m, hm⟩ := cant_onto _ (match s with | none => 0 | some k => k + 1) o rfl
  obtain ⟨n, hn⟩ := cant_onto _ m b rfl
  refine ⟨n, ?_⟩
  unfold adr
  rw [hn]
  dsimp only
  rw [hm]
  cases s <;> rfl
/-- the end's value, the errors' values -/
def EOFv (eb : Nat) : Value := .iface 170 (.pointer (some (adr eb)))
def errV (eb : Nat) (e : Int) : Value := if e = 0 then .nilIface else if e = -1 then EOFv eb else .iface 33 (.int .i64 e)
/-- the end's variable; it has no owner -/
def EOFat (w : World) (r : Own) (eb : Nat) : Prop := 0 < w.heap.size ∧ r 0 = none ∧ w.cell? ⟨0, 0, none⟩ = some (EOFv eb)
theorem EOFat.step {K : Nat → Prop} {w w' : World} {r r' : Own} {eb : Nat} (h : EOFat w r eb) (g : Step K w r w' r') : EOFat w' r' eb := by
  obtain ⟨h1, h2, h3⟩ := h
  exact ⟨Nat.lt_of_lt_of_le h1 g.size, by rw [g.old 0 h1, h2], (World.cell?_of_block (a := ⟨0, 0, none⟩) (g.keep 0 h1 (fun k hk => by rw [h2] at hk; cases hk))).trans h3⟩

theorem endN {b eb : Nat} {bk : Bool} {w : World} (c3 : w.cell? ⟨b, 3, none⟩ = some (.bool bk)) (c : w.cell? ⟨0, 0, none⟩ = some (EOFv eb)) {v : Value} (hv : errV eb (if bk then 363 else -1) = v) :
    Calls Tryd.prog 81 #[.pointer (some ⟨b, 0, none⟩)] w (RV w v) := by
  subst hv
  unfold EOFv at c
  cases bk
  · go_enter Tryd.func81, Tryd.ntmps81
    go_wp2
    go_ret
    exact ⟨rfl, Below.refl _ _⟩
  · go_enter Tryd.func81, Tryd.ntmps81
    go_wp2
    go_ret
    exact ⟨rfl, Below.refl _ _⟩

theorem endR {b : Nat} {bk : Bool} {w : World} (c3 : w.cell? ⟨b, 3, none⟩ = some (.bool bk)) {e : Int} (hv : (if bk then (363 : Int) else -1) = e) :
    Calls Tryd.prog 59 #[.pointer (some ⟨b, 0, none⟩)] w (RV w (.int .i64 e)) := by
  subst hv
  cases bk
  · go_enter Tryd.func59, Tryd.ntmps59
    go_wp2
    go_ret
    exact ⟨rfl, Below.refl _ _⟩
  · go_enter Tryd.func59, Tryd.ntmps59
    go_wp2
    go_ret
    exact ⟨rfl, Below.refl _ _⟩

def B8 (b : Bytes) : List Value := b.map (fun x => Value.int .u8 (x.toNat : Int))
theorem B8_length (b : Bytes) : (B8 b).length = b.length := by simp [B8]
theorem B8_append (a b : Bytes) : B8 (a ++ b) = B8 a ++ B8 b := by simp [B8]
theorem B8_take (n : Nat) (b : Bytes) : B8 (b.take n) = (B8 b).take n := by simp [B8]
theorem B8_drop (n : Nat) (b : Bytes) : B8 (b.drop n) = (B8 b).drop n := by simp [B8]
theorem B8_one (b : Bytes) : ∀ v ∈ B8 b, v.oneCell' = true := by
  intro v hv
  simp only [B8, List.mem_map] at hv
  obtain ⟨x, _, rfl⟩ := hv
  rfl

/-- a tank, in the block b, of the owner k -/
def TankAt (w : World) (r : Own) (k b : Nat) (t : Tank) (rd : Bool) (bk : Int) : Prop :=
  ∃ sa sn sc ha hn hc, r b = some k ∧ Blk w b [.slice sa sn sc, .int .i64 t.room, .bool t.over, .bool rd, .int .i64 bk, .slice ha hn hc, .int .i64 t.k] ∧
    RdK w r none 1 sa sn sc (I3 t.sizes) ∧ RowK w r k 1 ha hn hc (B8 t.has) ∧ (∀ x, blockOf ha = some x → x ≠ b)
theorem TankAt.step {K : Nat → Prop} {w w' : World} {r r' : Own} {k b : Nat} {t : Tank} {rd : Bool} {bk : Int} (h : TankAt w r k b t rd bk) (g : Step K w r w' r') (hk : ¬ K k) : TankAt w' r' k b t rd bk := by
  obtain ⟨sa, sn, sc, ha, hn, hc, h1, h2, h3, h4, h5⟩ := h
  exact ⟨sa, sn, sc, ha, hn, hc, g.oldK h2.lt h1, h2.step g h1 hk, h3.step g (fun k hk => by cases hk), h4.step g hk, h5⟩

/-- append onto a row, as a step of a region that draws -/
theorem step_append_row {P : Program} {ops : Array Oper} {o : Oper} {ac : Act} {w : World} {K : Act → World → Prop} {Q : Exit → Act → World → Prop} {E : Prop} (hgd : o.guard = none) (s x : Operand) (t tx : TypeId)
    (hop : o.op = Op.call { callee := Callee.builtin Builtin.append, args := #[s, x], argTypes := #[t, tx] })
    (e : TypeId) (i : TypeInfo) (z : Value) (size bytes : Nat) (ht : P.underlying t = some (.slice e)) (hi : P.info? e = some i) (hz : i.zero = some z) (hsize : i.size = size) (hby : i.bytes = bytes) (hzs : z.cells.size = size)
    {B : Nat} {a : Option Addr} {n cap : Nat} {xs : List Value} (hs : ac.eval s = .slice a n cap) (h : Row B w size a n cap xs) (m : Nat) (news : List Value) (hsrc : Src P size tx (ac.eval x) m news w)
    (h63 : n + m ≤ maxLen) (hbytes : (n + m) * bytes ≤ 140737488355328) (hB : B ≤ w.heap.size)
    (hk : ∀ a' cap' w', Row B w' size a' (n + m) cap' (xs ++ news) → w.grownBy w' (blockOf a) → (blockOf a' = blockOf a ∨ blockOf a' = some w.heap.size) → K (ac.put o.dst (.slice a' (n + m) cap')) w') :
    if Region.wanted o (yielded ops ac.tmps) = true then Oper.wp P o ac w K Q else E := by
  have hw : Region.wanted o (yielded ops ac.tmps) = true := by simp [Region.wanted, hgd]
  rw [if_pos hw]
  obtain ⟨a', cap', w', hr, h1, h2, h3⟩ := run_append_row (P := P) (w := w) t tx o.type e i z size bytes ht hi hz hsize hby hzs h (ac.eval x) m news hsrc h63 hbytes hB
  unfold Oper.wp
  simp [execOp, hop, resolve, invoke, builtin, hs, hr, Result.andThen]
  exact hk a' cap' w' h1 h2 h3
end Go.Proofs.YtigfgdefgnahpaaDoor
