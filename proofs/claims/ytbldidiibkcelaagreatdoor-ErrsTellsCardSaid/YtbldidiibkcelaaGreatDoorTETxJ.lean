/-
  Joined texts: strings.Join, the codes' Error, the many's Error (walks). Not a statement of the seat.
-/
import Derived.Test.YtbldidiibkcelaaGreatDoorTETxE
namespace Go.Proofs.YtbldidiibkcelaaGreatDoor
open Go.RowKit

def S1 (l : Bs) : Value := .string ⟨l.toArray⟩
theorem info9m : (Tryz.prog.info? 9).map (fun i => (i.zero, i.size, i.bytes)) = some (some (.string ⟨#[]⟩), 1, 16) := by kernel_rfl
theorem info9 : ∃ i, Tryz.prog.info? 9 = some i ∧ i.zero = some (.string ⟨#[]⟩) ∧ i.size = 1 ∧ i.bytes = 16 := by
  have h := info9m
  cases hi : Tryz.prog.info? 9 with
  | none => rw [hi] at h; cases h
  | some i =>
    rw [hi] at h
    simp only [Option.map_some, Option.some.injEq, Prod.mk.injEq] at h
    exact ⟨i, rfl, h.1, h.2.1, h.2.2⟩
theorem fmt63 {n : Int} {w : World} (h0 : -9223372036854775808 ≤ n) (h1 : n ≤ 9223372036854775807) (h : Lb w) :
    Calls Tryz.prog 63 #[.int .i64 n, .int .i64 10] w (fun e w' => e = .returned (S1 (dec n)) ∧ Below w.heap.size w w') := by
  have hd := dec_eq n h0 h1
  refine (Tryz.strconv_FormatInt_10 _ h0 h1 _ h.tab).mono ?_
  rintro e w1 ⟨rfl, k, os, rfl⟩
  exact ⟨by unfold S1; rw [← hd], below_grow _ _ _⟩
theorem join155 {a : Option Addr} {n c : Nat} {ts : List Bs} {sep : Bs} {w : World} (hR : Rd w 1 a n c (ts.map S1)) (hl : (Go.Lib.join ts sep).length ≤ 140737488355328) (hn : n ≤ 140737488355328) :
    Calls Tryz.prog 155 #[.slice a n c, .string ⟨sep.toArray⟩] w (fun e w' => e = .returned (S1 (Go.Lib.join ts sep)) ∧ Below w.heap.size w w') := by
  have hlen : ts.length = n := by have := hR.len; rw [List.length_map, Nat.mul_one] at this; exact this
  by_cases h0 : n = 0
  · subst h0
    obtain rfl := List.length_eq_zero_iff.1 hlen
    refine (Tryz.strings_Join_none a c ⟨sep.toArray⟩ w).mono ?_
    rintro e w' ⟨rfl, rfl⟩
    exact ⟨rfl, Below.refl _ _⟩
  · obtain ⟨b, off, rfl, hb, _⟩ := hR.at1 (k := 0) (by omega)
    have hm : (ts.map (fun l => (⟨l.toArray⟩ : ByteArray))).map (·.data.toList) = ts := by
      rw [List.map_map]
      conv => rhs; rw [← List.map_id ts]
      rfl
    have h := Tryz.strings_Join b off c (ts.map (fun l => (⟨l.toArray⟩ : ByteArray))) ⟨sep.toArray⟩ w (fun j x hx => by
      rw [List.getElem?_map] at hx
      have hj : j < n := by
        rcases Nat.lt_or_ge j n with h | h
        · exact h
        · rw [List.getElem?_eq_none (by omega)] at hx; cases hx
      obtain ⟨b', off', e, _, hc⟩ := hR.at1 (k := j) hj
      cases e
      rw [hc, List.getElem?_map]
      cases ht : ts[j]? with
      | none => rw [ht] at hx; cases hx
      | some l => rw [ht] at hx; cases hx; rfl) hb (by rw [List.length_map]; omega) (by rw [List.length_map, hlen]; exact hR.le) (by rw [hm]; exact hl)
    rw [hm, List.length_map, hlen] at h
    exact h
def CoRel (cs : List Int) (w : World) (t8 t3 : Value) (wr : World) : Prop :=
  ∃ (j : Nat) (a : Option Addr) (c : Nat), t8 = .int .i64 (j : Nat) ∧ j ≤ cs.length ∧ t3 = .slice a j c ∧ Row w.heap.size wr 1 a j c (((cs.take j).map dec).map S1) ∧ Below w.heap.size w wr
set_option maxRecDepth 100000 in
set_option maxHeartbeats 8000000 in
theorem err183 {cl : Option Addr} {cn cc : Nat} {cs : List Int} {w : World} (hR : Rd w 1 cl cn cc (I8 cs)) (hb : ∀ x, 0 < cn → blockOf cl = some x → x < w.heap.size) (hrng : ∀ x ∈ cs, -9223372036854775808 ≤ x ∧ x ≤ 9223372036854775807) (hn : cs.length ≤ 100000) (hL : Lb w) :
    Calls Tryz.prog 183 #[.slice cl cn cc] w (TXP (some (Go.Lib.join (cs.map dec) [32])) w) := by
  obtain ⟨i0, hi, hy0, hy1, hy2⟩ := info9
  have hcn : cs.length = cn := by have := hR.len; rw [Nat.mul_one, I8_length] at this; exact this
  have hjl : (Go.Lib.join (cs.map dec) [32]).length ≤ 140737488355328 := by
    have h1 := join_le (cs.map dec) 32
    have h2 := lens_dec cs
    rw [List.length_map] at h1
    omega
  have HJL := Lib.hid hjl
  have HR := Lib.hid (And.intro hR hb)
  have HRN := Lib.hid hrng
  have HL := Lib.hid hL
  have HCN := Lib.hid (And.intro hcn hn)
  clear hR hb hrng hL hcn hjl hn
  go_enter Tryz.func183, Tryz.ntmps183
  go_wp2_with fail
  go_loopw [8, 3] (fun t8 t3 wr => CoRel cs w t8 t3 wr) (fun t8 _ _ => cn - (intOf t8).toNat)
  case atStart => exact ⟨0, none, 0, rfl, Nat.zero_le _, rfl, Row.nil _ _ _, Below.refl _ _⟩
  case round =>
    obtain ⟨j, a, c0, rfl, hj, rfl, hRow, hBw⟩ := hrel
    have HBw := Lib.hid hBw
    have hcn := HCN.out.1
    by_cases hjn : j < cn
    · have hj1 : (j : Int) < (cn : Int) := by omega
      obtain ⟨bk, off, rfl, hbk, hcell⟩ := HR.out.1.at1 (k := j) hjn
      obtain ⟨x, hx⟩ : ∃ x, cs[j]? = some x := ⟨cs[j], List.getElem?_eq_getElem (by omega)⟩
      have hcr : wr.cell? ⟨bk, off + j, none⟩ = some (.int .i64 x) := by
        refine cellAt hBw ?_
        rw [hcell, I8, List.getElem?_map, hx]
        rfl
      have hxr := HRN.out x (List.mem_of_getElem? hx)
      have HC := Lib.hid (fun (wx : World) (hx : Below w.heap.size w wx) => fmt63 hxr.1 hxr.2 (HL.out.below hx HL.out.size))
      have hnx : (cs.take (j + 1)).map dec = (cs.take j).map dec ++ [dec x] := by rw [List.take_add_one, hx]; simp
      have HNX := Lib.hid hnx
      have HRW := Lib.hid hRow
      have HJ := Lib.hid (And.intro hjn (show j ≤ 100000 by have := HCN.out.2; omega))
      have hjm : j ≤ 9223372036854775806 := by have := HCN.out.2; omega
      clear hx hcell hbk hxr hnx hRow hBw hj hcn hjn
      go_wp2_with (first
        | (go_at_call 63; (with_reducible refine (HC.out _ HBw.out).mono ?_); rintro e9 w9 ⟨rfl, hb⟩; have HB9 := Lib.hid hb; have HR9 := fun o => Lib.hid ((HRW.out.below HB9.out).alloc o); have HS9 := Lib.hid (Src.oneAt (P := Tryz.prog) (w := w9) (tx := 244) Tryz.underlying244 _ 9 (show (S1 (dec x)).oneCell' = true from rfl) (g := w9.heap.size) rfl); have hle9 : w.heap.size ≤ w9.heap.size := Nat.le_trans HBw.out.size HB9.out.size; unfold S1 at HS9 ⊢; clear hb)
        | (at_builtin; refine wpList_append_row rfl _ _ 244 244 rfl 9 i0 (.string ⟨#[]⟩) 1 16 Tryz.underlying244 hi hy0 hy1 hy2 rfl rfl (HR9 _).out 1 _ HS9.out (by unfold maxLen; have := HJ.out; omega) (by have := HJ.out; omega) (by simp; omega) ?_; intro a4 c4 w4 hrow hgr hbk4; have HR4 := Lib.hid hrow; have HG4 := Lib.hid hgr; have HB4 := Lib.hid hbk4; clear hrow hgr hbk4))
      go_roundw
      case rel =>
        refine ⟨j + 1, a4, c4, by go_num, by have := HJ.out; have := HCN.out; omega, rfl, ?_, ?_⟩
        · rw [HNX.out, List.map_append]
          exact HR4.out
        · have hA : Below w9.heap.size w9 (w9.alloc (.cells #[S1 (dec x)] 9)) := (Below.refl _ _).alloc (Nat.le_refl _) _
          have h0 : Below w.heap.size w (w9.alloc (.cells #[S1 (dec x)] 9)) := bel_tr (bel_tr HBw.out HB9.out) hA
          exact h0.trans (((Kept.refl (fun x => blockOf a = some x) (w9.alloc (.cells #[S1 (dec x)] 9))).grown HG4.out (fun x hx _ => hx)).below h0.size (fun y hy h => by have := (HRW.out.lt y h).1; omega))
      case measure => simp [intOf]; have := HJ.out; omega
    · have hj1 : ¬ (j : Int) < (cn : Int) := by omega
      have hjl : j = cs.length := by omega
      have hRd := hRow.rd
      rw [hjl, List.take_length] at hRd
      have HC := Lib.hid (join155 (sep := [32]) hRd HJL.out (by have := HCN.out; omega))
      subst hjl
      have hj2 : ¬ ((cs.length : Nat) : Int) < (cn : Int) := hj1
      clear hRow hBw hj hcn hjn hRd hj1
      go_wp2_with (go_at_call 155; (with_reducible refine HC.out.mono ?_); rintro e9 w9 ⟨rfl, hb⟩; have HB9 := Lib.hid hb; clear hb)
      go_ret
      exact ⟨rfl, bel_tr HBw.out HB9.out⟩
end Go.Proofs.YtbldidiibkcelaaGreatDoor

