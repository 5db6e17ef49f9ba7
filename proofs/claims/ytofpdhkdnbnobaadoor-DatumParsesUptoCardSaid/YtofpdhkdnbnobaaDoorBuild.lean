/-
  The builder's writes; quote, pairs (walks). Not a statement of the seat.
-/
import Derived.Test.YtofpdhkdnbnobaaDoorParse
namespace Go.Proofs.YtofpdhkdnbnobaaDoor
open Go.RowKit

/-- the builder holds these bytes; what lies below B is not its own -/
structure Bd (B bb : Nat) (acc : Bs) (w : World) : Prop where
  is : Lib.IsBuilderF 55 5 B bb (Lib.byteCells acc) w
  le : B ≤ w.heap.size
/-- what writes leave: all below B, and all that holds no bytes -/
structure Kb (B bb : Nat) (w w' : World) : Prop where
  below : Below B w w'
  others : Lib.OthersKept 5 (some bb) w w'
def big : Nat := 140737488355328

theorem Kb.refl (B bb : Nat) (w : World) : Kb B bb w w := ⟨Below.refl _ _, Lib.OthersKept.refl _ _ _⟩
theorem Kb.trans {B bb : Nat} {w w1 w2 : World} (h : Kb B bb w w1) (g : Kb B bb w1 w2) : Kb B bb w w2 := ⟨h.below.trans g.below, h.others.trans g.others⟩
theorem others_below {e : TypeId} {b : Option Nat} {a w w' : World} (h : Lib.OthersKept e b a w) (g : Below w.heap.size w w') : Lib.OthersKept e b a w' := fun k o hk hne hno => by
  have h1 := h k o hk hne hno
  have hlt : k < w.heap.size := by
    by_cases hl : k < w.heap.size
    · exact hl
    · rw [Array.getElem?_eq_none (by omega)] at h1; cases h1
  rw [g.block k hlt]; exact h1
theorem Kb.calm {B bb : Nat} {w w1 w2 : World} (h : Kb B bb w w1) (hB : B ≤ w.heap.size) (g : Below w1.heap.size w1 w2) : Kb B bb w w2 :=
  ⟨h.below.trans (g.mono (Nat.le_trans hB h.below.size)), others_below h.others g⟩
theorem ownsF_below {w w' : World} {base : Nat} {e : TypeId} {size : Nat} {v : Value} {n : Nat} {xs : List Value} (h : w.ownsRowF base e size v n xs) (g : Below w.heap.size w w') : w'.ownsRowF base e size v n xs := by
  obtain ⟨h1, h2⟩ := h
  refine ⟨h1, ?_⟩
  rcases h2 with h2 | ⟨b, cap, cur, fz, hv, hb, hh, rest⟩
  · exact .inl h2
  · have hlt : b < w.heap.size := by
      by_cases hl : b < w.heap.size
      · exact hl
      · rw [Array.getElem?_eq_none (by omega)] at hh; cases hh
    exact .inr ⟨b, cap, cur, fz, hv, hb, by rw [g.block b hlt]; exact hh, rest⟩
theorem isF_below {T e : TypeId} {B b : Nat} {bs : List Value} {w w' : World} (h : Lib.IsBuilderF T e B b bs w) (g : Below w.heap.size w w') : Lib.IsBuilderF T e B b bs w' := by
  have key : ∀ p, Lib.BuilderAtF T e B b p bs w → Lib.BuilderAtF T e B b p bs w' := by
    rintro p ⟨hB, v, hb, hown, hne⟩
    have hlt : b < w.heap.size := by
      by_cases hl : b < w.heap.size
      · exact hl
      · rw [Array.getElem?_eq_none (by omega)] at hb; cases hb
    exact ⟨hB, v, by rw [g.block b hlt]; exact hb, ownsF_below hown g, hne⟩
  exact h.elim (fun x => .inl (key _ x)) (fun x => .inr (key _ x))
theorem Bd.calm {B bb : Nat} {acc : Bs} {w w' : World} (h : Bd B bb acc w) (g : Below w.heap.size w w') : Bd B bb acc w' := ⟨isF_below h.is g, Nat.le_trans h.le g.size⟩

/-- a box that holds no bytes -/
def TB (w : World) (k : Nat) (cs : List Value) : Prop := Blk w k cs ∧ ∃ o, w.heap[k]? = some o ∧ ∀ c fz, o ≠ .cells c 5 fz
theorem TB.kb {B bb k : Nat} {w w' : World} {cs : List Value} (h : TB w k cs) (g : Kb B bb w w') (hk : k ≠ bb) : TB w' k cs := by
  obtain ⟨h1, o, h2, h3⟩ := h
  have h4 := g.others k o h2 (fun e => hk (Option.some.inj e)) h3
  exact ⟨h1.same (by rw [h2, h4]), o, h4, h3⟩
theorem TB.below {k : Nat} {w w' : World} {cs : List Value} (h : TB w k cs) (g : Below w.heap.size w w') : TB w' k cs := by
  obtain ⟨h1, o, h2, h3⟩ := h
  exact ⟨h1.below g, o, by rw [g.block k h1.1]; exact h2, h3⟩
theorem TB.new (w : World) (cs : Array Value) (t : TypeId) (ht : t ≠ 5) : TB (w.alloc (.cells cs t)) w.heap.size cs.toList := by
  refine ⟨Blk.new w cs t, .cells cs t, ?_, fun c fz e => ht (by cases e; rfl)⟩
  show (w.heap.push (.cells cs t))[w.heap.size]? = _
  simp

/-- the two writes -/
def WB (B bb : Nat) (acc : Bs) (w : World) (e : Ending) (w' : World) : Prop := (∃ v, e = .returned v) ∧ Bd B bb acc w' ∧ Kb B bb w w'
theorem writeS {B bb : Nat} {acc : Bs} {s : ByteArray} {w : World} (h : Bd B bb acc w) (hl : acc.length + s.size ≤ big) :
    Calls Tryd.prog 54 #[.pointer (some ⟨bb, 0, none⟩), .string s] w (fun e w' => e = .returned (.tuple #[.int .i64 s.size, .nilIface]) ∧ Bd B bb (acc ++ s.data.toList) w' ∧ Kb B bb w w') := by
  refine (Tryd.Builder_WriteString_k B bb (Lib.byteCells acc) s w h.is (by rw [Lib.byteCells_length]; exact hl) h.le).mono ?_
  rintro e w' ⟨rfl, h1, h2, h3⟩
  refine ⟨rfl, ⟨.inr ?_, Nat.le_trans h.le h2.size⟩, h2, h3⟩
  rw [Lib.byteCells_append, ← Lib.strCells_eq]
  exact h1
theorem writeB {B bb : Nat} {acc : Bs} (c : UInt8) {w : World} (h : Bd B bb acc w) (hl : acc.length + 1 ≤ big) :
    Calls Tryd.prog 59 #[.pointer (some ⟨bb, 0, none⟩), .int .u8 (c.toNat : Int)] w (fun e w' => e = .returned .nilIface ∧ Bd B bb (acc ++ [c]) w' ∧ Kb B bb w w') := by
  refine (Tryd.Builder_WriteByte_k B bb (Lib.byteCells acc) c.toNat w h.is (by rw [Lib.byteCells_length]; exact hl) h.le).mono ?_
  rintro e w' ⟨rfl, h1, h2, h3⟩
  refine ⟨rfl, ⟨.inr ?_, Nat.le_trans h.le h2.size⟩, h2, h3⟩
  rw [Lib.byteCells_append]
  exact h1

theorem writeL {B bb : Nat} {acc : Bs} (c : UInt8) (z : Int) (hz : (c.toNat : Int) = z) {w : World} (h : Bd B bb acc w) (hl : acc.length + 1 ≤ big) :
    Calls Tryd.prog 59 #[.pointer (some ⟨bb, 0, none⟩), .int .u8 z] w (fun e w' => e = .returned .nilIface ∧ Bd B bb (acc ++ [c]) w' ∧ Kb B bb w w') := by
  subst hz
  exact writeB c h hl

theorem hexAt : ∀ (i : Nat) (h : i < (⟨#[48, 49, 50, 51, 52, 53, 54, 55, 56, 57, 97, 98, 99, 100, 101, 102]⟩ : ByteArray).size), (⟨#[48, 49, 50, 51, 52, 53, 54, 55, 56, 57, 97, 98, 99, 100, 101, 102]⟩ : ByteArray)[i] = hexD.getD i 0 := by decide

theorem quote_len (l : Bs) : (l.flatMap quoteOne).length ≤ 4 * l.length := by
  induction l with
  | nil => simp
  | cons c r ih =>
    have : (quoteOne c).length ≤ 4 := by unfold quoteOne; split <;> (try split) <;> simp [hex2]
    simp only [List.flatMap_cons, List.length_append, List.length_cons]
    omega
def qAt (acc : Bs) (L : Bs) (k : Nat) : Bs := acc ++ 34 :: (L.take k).flatMap quoteOne
theorem qAt_len (acc L : Bs) (k : Nat) : (qAt acc L k).length ≤ acc.length + 1 + 4 * k := by
  have h1 := quote_len (L.take k)
  have h2 : (L.take k).length ≤ k := by rw [List.length_take]; omega
  simp only [qAt, List.length_append, List.length_cons]
  omega
theorem qAt_next {acc L : Bs} {k : Nat} (h : k < L.length) : qAt acc L (k + 1) = qAt acc L k ++ quoteOne L[k] := by
  have h1 : L.take (k + 1) = L.take k ++ [L[k]] := by rw [List.take_add_one, List.getElem?_eq_getElem h]; rfl
  simp only [qAt]
  rw [h1, List.flatMap_append]
  simp

def QuRel (B bb : Nat) (acc : Bs) (s : ByteArray) (w : World) (t : Value) (wr : World) : Prop :=
  ∃ k, k ≤ s.size ∧ t = .int .i64 (k : Nat) ∧ Bd B bb (qAt acc s.data.toList k) wr ∧ Kb B bb w wr

set_option maxHeartbeats 4000000 in
set_option maxRecDepth 100000 in
theorem quoteN {B bb : Nat} {acc : Bs} {s : ByteArray} {w : World} (h : Bd B bb acc w) (hl : acc.length + 4 * s.size + 2 ≤ big) :
    Calls Tryd.prog 58 #[.pointer (some ⟨bb, 0, none⟩), .string s] w (fun e w' => e = .returned (.tuple #[]) ∧ Bd B bb (acc ++ quoteM s.data.toList) w' ∧ Kb B bb w w') := by
  have hS : s.size ≤ 1000000000000000 := by unfold big at hl; omega
  have HSZ := Lib.hid (Lib.size_eq s)
  have HLL := Lib.hid hl
  have HC := Lib.hid (writeL 34 34 rfl h (by omega))
  clear h hl
  go_enter Tryd.func58, Tryd.ntmps58
  go_wp2_with (go_at_call 59; refine HC.out.mono ?_; rintro e w1 ⟨rfl, hB1, hK1⟩)
  have H0 := Lib.hid (show QuRel B bb acc s w (.int .i64 0) w1 from ⟨0, Nat.zero_le _, rfl, by simpa [qAt] using hB1, hK1⟩)
  clear hB1 hK1 HC
  go_loopw [10] (fun t wr => QuRel B bb acc s w t wr) (fun t _ => s.size - (intOf t).toNat)
  case atStart => exact H0.out
  case round =>
    obtain ⟨k, hk, rfl, hB, hK⟩ := hrel
    have HB := Lib.hid hB
    have HK := Lib.hid hK
    clear hB hK H0
    by_cases h1 : k < s.size
    · have h1i : (k : Int) < (s.size : Int) := by omega
      have hqn := qAt_next (acc := acc) (L := s.data.toList) (k := k) (by rw [← HSZ.out]; exact h1)
      have hgl : s.data.toList[k]'(by rw [← HSZ.out]; exact h1) = s[k] := by simp [ByteArray.getElem_eq_getElem_data]
      rw [hgl] at hqn
      have hql := qAt_len acc s.data.toList k
      have HQN := Lib.hid hqn
      have HQL := Lib.hid hql
      clear hqn hgl hql
      go_upto_region 6 with (fail)
      generalize s[k] = c at *
      have hcb := c.toNat_lt
      by_cases h34 : c = 34
      · subst h34
        have HC1 := Lib.hid (writeL 92 92 rfl HB.out (by have := HLL.out; have := HQL.out; (try simp only [List.length_append, List.length_cons, List.length_nil]); unfold big at *; omega))
        go_wp2_with (first
          | (go_at_call 59; (with_reducible refine HC1.out.mono ?_); rintro e w1 ⟨rfl, hBx, hKx⟩; have HB1 := Lib.hid hBx; have HK1 := Lib.hid (HK.out.trans hKx); have HC2 := Lib.hid (writeL 34 34 rfl HB1.out (by have := HLL.out; have := HQL.out; (try simp only [List.length_append, List.length_cons, List.length_nil]); unfold big at *; omega)); clear hBx hKx)
          | (go_at_call 59; (with_reducible refine HC2.out.mono ?_); rintro e w2 ⟨rfl, hBx, hKx⟩; have HB2 := Lib.hid hBx; have HK2 := Lib.hid (HK1.out.trans hKx); clear hBx hKx))
        go_roundw
        case rel =>
          refine ⟨k + 1, by omega, by go_num, ?_, HK2.out⟩
          rw [HQN.out]
          have hfin := HB2.out
          simpa [quoteOne] using hfin
        case measure => simp [intOf]; omega
      · by_cases h92 : c = 92
        · subst h92
          have HC1 := Lib.hid (writeL 92 92 rfl HB.out (by have := HLL.out; have := HQL.out; (try simp only [List.length_append, List.length_cons, List.length_nil]); unfold big at *; omega))
          go_wp2_with (first
            | (go_at_call 59; (with_reducible refine HC1.out.mono ?_); rintro e w1 ⟨rfl, hBx, hKx⟩; have HB1 := Lib.hid hBx; have HK1 := Lib.hid (HK.out.trans hKx); have HC2 := Lib.hid (writeL 92 92 rfl HB1.out (by have := HLL.out; have := HQL.out; (try simp only [List.length_append, List.length_cons, List.length_nil]); unfold big at *; omega)); clear hBx hKx)
            | (go_at_call 59; (with_reducible refine HC2.out.mono ?_); rintro e w2 ⟨rfl, hBx, hKx⟩; have HB2 := Lib.hid hBx; have HK2 := Lib.hid (HK1.out.trans hKx); clear hBx hKx))
          go_roundw
          case rel =>
            refine ⟨k + 1, by omega, by go_num, ?_, HK2.out⟩
            rw [HQN.out]
            have hfin := HB2.out
            simpa [quoteOne] using hfin
          case measure => simp [intOf]; omega
        · have hs34 : ((c.toNat : Int) == 34) = false := by
            have : c.toNat ≠ 34 := fun e => h34 (UInt8.toNat_inj.1 (by show c.toNat = 34; exact e))
            simp; omega
          have hs92 : ((c.toNat : Int) == 92) = false := by
            have : c.toNat ≠ 92 := fun e => h92 (UInt8.toNat_inj.1 (by show c.toNat = 92; exact e))
            simp; omega
          have HCC := Lib.hid (And.intro h34 h92)
          clear h34 h92
          by_cases hrg : c.toNat < 32 ∨ 126 < c.toNat
          · have hrg2 : c < 32 ∨ 126 < c := by
              rcases hrg with h | h
              · exact .inl (UInt8.lt_iff_toNat_lt.2 h)
              · exact .inr (UInt8.lt_iff_toNat_lt.2 h)
            have HRG := Lib.hid hrg2
            clear hrg2
            have HC1 := Lib.hid (writeS (s := ⟨#[92, 120]⟩) HB.out (by show _ + 2 ≤ big; have := HLL.out; have := HQL.out; unfold big at *; omega))
            have HI := Lib.hid (show c.toNat / 16 < (⟨#[48, 49, 50, 51, 52, 53, 54, 55, 56, 57, 97, 98, 99, 100, 101, 102]⟩ : ByteArray).size ∧ c.toNat % 16 < (⟨#[48, 49, 50, 51, 52, 53, 54, 55, 56, 57, 97, 98, 99, 100, 101, 102]⟩ : ByteArray).size by show _ < 16 ∧ _ < 16; omega)
            have hlen0 := HQL.out
            have HLA := Lib.hid (show (qAt acc s.data.toList k ++ (⟨#[92, 120]⟩ : ByteArray).data.toList).length + 1 ≤ big by rw [List.length_append]; show _ + 2 + 1 ≤ big; have := HLL.out; unfold big at *; omega)
            have HLB := Lib.hid (show ∀ x, ((qAt acc s.data.toList k ++ (⟨#[92, 120]⟩ : ByteArray).data.toList) ++ [x]).length + 1 ≤ big by intro x; rw [List.length_append, List.length_append]; show _ + 2 + 1 + 1 ≤ big; have := HLL.out; unfold big at *; omega)
            clear hlen0
            rcases hrg with hrg | hrg
            · go_wp2_with (first
                | (go_at_call 54; (with_reducible refine HC1.out.mono ?_); rintro e w1 ⟨rfl, hBx, hKx⟩; have HB1 := Lib.hid hBx; have HK1 := Lib.hid (HK.out.trans hKx); have HC2 := Lib.hid (writeB ((⟨#[48, 49, 50, 51, 52, 53, 54, 55, 56, 57, 97, 98, 99, 100, 101, 102]⟩ : ByteArray)[c.toNat / 16]'HI.out.1) hBx HLA.out); clear hBx hKx)
                | (go_at_call 59; (with_reducible refine HC2.out.mono ?_); rintro e w2 ⟨rfl, hBx, hKx⟩; have HB2 := Lib.hid hBx; have HK2 := Lib.hid (HK1.out.trans hKx); have HC3 := Lib.hid (writeB ((⟨#[48, 49, 50, 51, 52, 53, 54, 55, 56, 57, 97, 98, 99, 100, 101, 102]⟩ : ByteArray)[c.toNat % 16]'HI.out.2) hBx (HLB.out _)); clear hBx hKx)
                | (go_at_call 59; (with_reducible refine HC3.out.mono ?_); rintro e w3 ⟨rfl, hBx, hKx⟩; have HB3 := Lib.hid hBx; have HK3 := Lib.hid (HK2.out.trans hKx); clear hBx hKx))
              go_roundw
              case rel =>
                refine ⟨k + 1, by omega, by go_num, ?_, HK3.out⟩
                rw [HQN.out]
                have hfin := HB3.out
                rw [hexAt _ HI.out.1, hexAt _ HI.out.2] at hfin
                simpa [quoteOne, HCC.out.1, HCC.out.2, HRG.out, hex2] using hfin
              case measure => simp [intOf]; omega
            · go_wp2_with (first
                | (go_at_call 54; (with_reducible refine HC1.out.mono ?_); rintro e w1 ⟨rfl, hBx, hKx⟩; have HB1 := Lib.hid hBx; have HK1 := Lib.hid (HK.out.trans hKx); have HC2 := Lib.hid (writeB ((⟨#[48, 49, 50, 51, 52, 53, 54, 55, 56, 57, 97, 98, 99, 100, 101, 102]⟩ : ByteArray)[c.toNat / 16]'HI.out.1) hBx HLA.out); clear hBx hKx)
                | (go_at_call 59; (with_reducible refine HC2.out.mono ?_); rintro e w2 ⟨rfl, hBx, hKx⟩; have HB2 := Lib.hid hBx; have HK2 := Lib.hid (HK1.out.trans hKx); have HC3 := Lib.hid (writeB ((⟨#[48, 49, 50, 51, 52, 53, 54, 55, 56, 57, 97, 98, 99, 100, 101, 102]⟩ : ByteArray)[c.toNat % 16]'HI.out.2) hBx (HLB.out _)); clear hBx hKx)
                | (go_at_call 59; (with_reducible refine HC3.out.mono ?_); rintro e w3 ⟨rfl, hBx, hKx⟩; have HB3 := Lib.hid hBx; have HK3 := Lib.hid (HK2.out.trans hKx); clear hBx hKx))
              go_roundw
              case rel =>
                refine ⟨k + 1, by omega, by go_num, ?_, HK3.out⟩
                rw [HQN.out]
                have hfin := HB3.out
                rw [hexAt _ HI.out.1, hexAt _ HI.out.2] at hfin
                simpa [quoteOne, HCC.out.1, HCC.out.2, HRG.out, hex2] using hfin
              case measure => simp [intOf]; omega
          · have hrg2 : ¬ (c < 32 ∨ 126 < c) := by rw [UInt8.lt_iff_toNat_lt, UInt8.lt_iff_toNat_lt]; exact hrg
            have HRG := Lib.hid hrg2
            have hn32 : ¬ (c.toNat : Int) < 32 := by omega
            have hn126 : ¬ (126 : Int) < (c.toNat : Int) := by omega
            clear hrg2 hrg
            have HC1 := Lib.hid (writeB c HB.out (by have := HLL.out; have := HQL.out; (try simp only [List.length_append, List.length_cons, List.length_nil]); unfold big at *; omega))
            go_wp2_with (first
              | (go_at_call 59; (with_reducible refine HC1.out.mono ?_); rintro e w1 ⟨rfl, hBx, hKx⟩; have HB1 := Lib.hid hBx; have HK1 := Lib.hid (HK.out.trans hKx); clear hBx hKx))
            go_roundw
            case rel =>
              refine ⟨k + 1, by omega, by go_num, ?_, HK1.out⟩
              rw [HQN.out]
              have hfin := HB1.out
              simpa [quoteOne, HCC.out.1, HCC.out.2, HRG.out] using hfin
            case measure => simp [intOf]; omega
    · have hke : k = s.size := by omega
      have h1i : ¬ (k : Int) < (s.size : Int) := by omega
      have hq0 : qAt acc s.data.toList k = acc ++ 34 :: s.data.toList.flatMap quoteOne := by rw [qAt, List.take_of_length_le (by rw [← HSZ.out]; omega)]
      have hql := qAt_len acc s.data.toList k
      have HC := Lib.hid (writeL 34 34 rfl HB.out (by have := HLL.out; unfold big at *; omega))
      rw [hq0] at HC
      clear hq0 hql
      go_wp2_with (go_at_call 59; refine HC.out.mono ?_; rintro e w2 ⟨rfl, hB2, hK2⟩)
      go_end0
      exact ⟨rfl, by simpa [quoteM] using hB2, HK.out.trans hK2⟩
end Go.Proofs.YtofpdhkdnbnobaaDoor
