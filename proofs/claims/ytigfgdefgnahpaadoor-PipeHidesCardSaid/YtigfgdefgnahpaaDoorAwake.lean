/-
  The walk of awake (chapter 36's first example). Not a statement of the seat.
-/
import Derived.Test.YtigfgdefgnahpaaDoorAtLeastM
import Derived.Test.YtigfgdefgnahpaaDoorFitM
namespace Go.Proofs.YtigfgdefgnahpaaDoor
open Go.RowKit

def abc : ByteArray := ⟨#[97, 98, 99, 100, 101]⟩
theorem abc_s : (srcOf abc.data.toList [2] false false).ok := by
  refine ⟨?_, by decide, by decide, by decide⟩
  intro z hz
  simp [srcOf] at hz
  subst hz
  decide
theorem abc_some : (srcOf abc.data.toList [2] false false).some 0 := .inr ⟨by decide, by decide⟩
theorem abc_kk : (srcOf abc.data.toList [2] false false).k + (srcOf abc.data.toList [2] false false).rem 0 ≤ 5000000 := by decide
theorem abc_ok {k : List KW} (hk : k = []) {t : Tank} (ht : t = freshT [] (-1) false ∨ t = freshT [] 0 false) : CpOk 0 ⟨upto [] 0, srcOf abc.data.toList [2] false false, k, t, 0⟩ := by
  subst hk
  refine ⟨abc_s, abc_some, (fun x hx => by cases hx), ?_, ?_, Nat.zero_le _, ?_, (fun x hx => by cases hx), abc_kk⟩
  · rcases ht with rfl | rfl
    · exact ⟨(fun z hz => by cases hz), by decide, by decide, by decide, fun h => by simp [freshT] at h⟩
    · exact ⟨(fun z hz => by cases hz), by decide, by decide, by decide, fun _ => by decide⟩
  · rcases ht with rfl | rfl <;> exact Nat.zero_le _
  · rcases ht with rfl | rfl <;> exact Nat.zero_le _
def abcC (wr : Bool) : Cp × Int × Int := copyM ⟨wr, fun _ => 0⟩ ⟨false, fun _ => 0⟩ 0 4 1000 ⟨upto [] 0, srcOf abc.data.toList [2] false false, uptoK [] 0, freshT [] (-1) false, 0⟩
theorem abc0 : (abcC false).1.tot = 5 ∧ (abcC false).2.1 = 0 ∧ (abcC false).2.2 = 0 ∧ (abcC false).1.t.has = [97, 98, 99, 100, 101] ∧ (abcC false).1.s.k = 4 ∧ (abcC false).1.t.k = 3 := by
  refine ⟨?_, ?_, ?_, ?_, ?_, ?_⟩ <;> rfl
theorem abc1 : (abcC true).2.1 = 0 ∧ (abcC true).2.2 = 1 ∧ (abcC true).1.t.k = 1 := by
  refine ⟨?_, ?_, ?_⟩ <;> rfl
theorem abc2 : alOut 6 abc.data.toList (alM 6 9 1000 ⟨upto [] 0, srcOf abc.data.toList [2] false false, [], freshT [] 0 false, 0⟩) = (abc.data.toList, 364) := by rfl

/-- what the laws ask of the world they begin in -/
def Laid (eb : Nat) (w : World) : Prop := w.cell? ⟨0, 0, none⟩ = some (EOFv eb) ∧ w.cell? ⟨1, 0, none⟩ = some (.iface 157 (.agg #[.pointer (some ⟨2, 68, none⟩)]))
theorem Laid.eof {eb : Nat} {w : World} (h : Laid eb w) : EOFat w free eb := ⟨World.block_lt_of_cell? _ _ h.1, rfl, h.1⟩
theorem Laid.et {eb : Nat} {w : World} (h : Laid eb w) : ETat w free := ⟨World.block_lt_of_cell? _ _ h.2, rfl, h.2⟩
theorem Laid.below {eb : Nat} {w w' : World} (h : Laid eb w) (hb : Below w.heap.size w w') : Laid eb w' := ⟨cellAt hb h.1, cellAt hb h.2⟩
theorem nilPipes (w : World) : Pipes w free none 0 0 [] := ⟨⟨⟨rfl, Nat.le_refl _, by unfold maxLen; omega, .inl ⟨rfl, fun _ => rfl⟩⟩, .inl rfl⟩, fun p hp => by cases hp⟩
theorem nilRdK (w : World) : RdK w free none 1 none 0 0 (I3 []) := ⟨⟨rfl, Nat.le_refl _, by unfold maxLen; omega, .inl ⟨rfl, fun _ => rfl⟩⟩, .inl rfl⟩
theorem oneRdK {w : World} {b : Nat} {v : Int} (hb : Blk w b [.int .i64 v]) : RdK w free none 1 (some ⟨b, 0, none⟩) 1 1 (I3 [v]) := by
  refine ⟨⟨rfl, Nat.le_refl _, by unfold maxLen; omega, .inr ⟨b, 0, rfl, hb.lt, fun j hj => ?_⟩⟩, .inr (fun _ _ => rfl)⟩
  have hj0 : j = 0 := by simp [I3] at hj; exact hj
  subst hj0
  exact hb.cell 0 rfl

set_option maxRecDepth 100000 in
set_option maxHeartbeats 8000000 in
theorem awakeT {eb : Nat} {w : World} (hL : Laid eb w) : Calls Tryd.prog 12 #[] w (RV w (.bool true)) := by
  obtain ⟨wq, hwq⟩ : ∃ wq, (w.alloc (.cells #[.int .i64 2] 3)).alloc (.cells #[.string ⟨#[97, 98, 99, 100, 101]⟩, .slice (some ⟨w.heap.size, 0, none⟩) 1 1, .bool false, .bool false, .bool false, .slice none 0 0] 25) = wq := ⟨_, rfl⟩
  have hbq : Below w.heap.size w wq := by rw [← hwq]; exact ((Below.refl _ w).alloc (Nat.le_refl _) _).alloc (by rw [sz_alloc]; omega) _
  have hn0 : Blk wq w.heap.size [.int .i64 2] := by rw [← hwq]; exact (Blk.new _ _ _).alloc _
  have hs0 : Blk wq (w.heap.size + 1) [.string ⟨#[97, 98, 99, 100, 101]⟩, .slice (some ⟨w.heap.size, 0, none⟩) 1 1, .bool false, .bool false, .bool false, .slice none 0 0] := by
    rw [← hwq]
    have := Blk.new (w.alloc (.cells #[.int .i64 2] 3)) #[.string ⟨#[97, 98, 99, 100, 101]⟩, .slice (some ⟨w.heap.size, 0, none⟩) 1 1, .bool false, .bool false, .bool false, .slice none 0 0] 25
    rw [sz_alloc] at this
    exact this
  have hLq := hL.below (hbq.mono (Nat.le_refl _))
  have hcop : ∀ (wr : Bool) (wx : World), Blk wx w.heap.size [.int .i64 2] → Laid eb wx → Calls Tryd.prog 14 #[.agg #[.string ⟨#[97, 98, 99, 100, 101]⟩, .slice (some ⟨w.heap.size, 0, none⟩) 1 1, .bool false, .bool false, .bool wr, .slice none 0 0], .agg #[.slice none 0 0, .int .i64 (-1), .bool false, .bool false, .int .i64 0, .slice none 0 0], .int .i64 4] wx (ToldP (abcC wr).1.tot (abcC wr).2.1 (abcC wr).2.2.toNat (abcC wr).1.t (abcC wr).1.s (sideTs (abcC wr).1.l) (cntsOf (abcC wr).1.l ++ cntsK (abcC wr).1.k) wx) := by
    intro wr wx hb hl
    have h0 : (abcC wr).2.2 = (((abcC wr).2.2.toNat : Nat) : Int) := by cases wr <;> rfl
    exact copyN (bulk := 0) (m := 4) (p := 0) (F := 1000) (zs := [2]) (tzs := []) (ps := []) (qs := []) (oneRdK hb) (nilPipes wx) (nilRdK wx) (nilPipes wx) (fun x hx => by cases hx) (by omega) (by omega) (abc_ok (by rfl) (.inl rfl)) (fun h => by cases h) (by omega) (by omega) hl.eof hl.et (by decide) (by rw [← h0]; rfl)
  have hatl : ∀ (wr : Bool) (wx : World), Blk wx w.heap.size [.int .i64 2] → Laid eb wx → Calls Tryd.prog 22 #[.agg #[.string ⟨#[97, 98, 99, 100, 101]⟩, .slice (some ⟨w.heap.size, 0, none⟩) 1 1, .bool false, .bool false, .bool wr, .slice none 0 0], .int .i64 6, .int .i64 9] wx (RV wx (.tuple #[.string abc, .int .i64 364])) := by
    intro wr wx hb hl
    exact atLeastN (p := 0) (F := 1000) (zs := [2]) (ps := []) (size := 9) (least := 6) (oneRdK hb) (nilPipes wx) (fun x hx => by cases hx) (by omega) (abc_ok rfl (.inr rfl)) (by omega) (by omega) (by omega) hl.eof hl.et (by decide) rfl abc2
  have hsrc : ∀ (wr : Bool) (wx : World), Blk wx w.heap.size [.int .i64 2] → Calls Tryd.prog 26 #[.agg #[.string ⟨#[97, 98, 99, 100, 101]⟩, .slice (some ⟨w.heap.size, 0, none⟩) 1 1, .bool false, .bool false, .bool wr, .slice none 0 0]] wx (RV wx (.bool true)) := by
    intro wr wx hb
    exact srcN (r := free) (ps := []) (zs := [2]) (fun _ _ => rfl) (oneRdK hb) (nilPipes wx) rfl
  have HCOP := Lib.hid hcop
  have HATL := Lib.hid hatl
  have HSRC := Lib.hid hsrc
  have HBQ := Lib.hid hbq
  have HL0 := Lib.hid hL
  have HN0 := Lib.hid hn0
  have HS0 := Lib.hid hs0
  have HLQ := Lib.hid hLq
  have c0 := hs0.cell 0 rfl
  have c1 := hs0.cell 1 rfl
  have c2 := hs0.cell 2 rfl
  have c3 := hs0.cell 3 rfl
  have c4 := hs0.cell 4 rfl
  have c5 := hs0.cell 5 rfl
  clear hcop hatl hsrc hbq hn0 hs0 hLq hL
  have HWQ := Lib.hid hwq
  clear hwq
  go_enter Tryd.func12, Tryd.ntmps12
  go_wp2_with fail
  rw [HWQ.out]
  clear HWQ
  refine (HCOP.out false wq HN0.out HLQ.out).mono ?_
  rintro e1 w1 ⟨a1, n1, d1, a2, n2, d2, rfl, hb1, _, _, _, _⟩
  obtain ⟨e10, e11, e12, e13, e14, e15⟩ := abc0
  have hA := Blk.new w1 #[.int .i64 5, .int .i64 0, .int .i64 0, .string ⟨#[97, 98, 99, 100, 101]⟩, .slice a1 n1 d1, .slice a2 n2 d2, .int .i64 4, .int .i64 3, .int .i64 ((abcC false).1.s.left : Nat)] 37
  have hv1 : Value.agg #[.int .i64 ((abcC false).1.tot : Nat), .int .i64 (abcC false).2.1, .int .i64 ((abcC false).2.2.toNat : Nat), hasS (abcC false).1.t, .slice a1 n1 d1, .slice a2 n2 d2, .int .i64 ((abcC false).1.s.k : Nat), .int .i64 ((abcC false).1.t.k : Nat), .int .i64 ((abcC false).1.s.left : Nat)] =
      .agg #[.int .i64 5, .int .i64 0, .int .i64 0, .string ⟨#[97, 98, 99, 100, 101]⟩, .slice a1 n1 d1, .slice a2 n2 d2, .int .i64 4, .int .i64 3, .int .i64 ((abcC false).1.s.left : Nat)] := by
    unfold hasS
    rw [e10, e11, e12, e13, e14, e15]
    rfl
  rw [hv1]
  have HB1 := Lib.hid hb1
  have c0 := cellAt hb1 c0
  have c1 := cellAt hb1 c1
  have c2 := cellAt hb1 c2
  have c3 := cellAt hb1 c3
  have c4' := cellAt hb1 c4
  have f4' := freeAt hb1 c4 (HS0.out.free 4 (by simp))
  have c5 := cellAt hb1 c5
  have hlt1 : w.heap.size + 1 < w1.heap.size := World.block_lt_of_cell? _ _ c5
  generalize ((abcC false).1.s.left : Nat) = lf1 at hA ⊢
  clear hv1 e10 e11 e12 e13 e14 e15 hb1
  go_upto_region 4 with (fail)
  have hN1 := HN0.out.below HB1.out
  have hS1 := HS0.out.below HB1.out
  have hA2 : Blk ((w1.setCell ⟨w.heap.size + 1, 4, none⟩ (.bool true)).alloc (.cells #[.int .i64 5, .int .i64 0, .int .i64 0, .string ⟨#[97, 98, 99, 100, 101]⟩, .slice a1 n1 d1, .slice a2 n2 d2, .int .i64 4, .int .i64 3, .int .i64 (lf1 : Int)] 37)) w1.heap.size [.int .i64 5, .int .i64 0, .int .i64 0, .string ⟨#[97, 98, 99, 100, 101]⟩, .slice a1 n1 d1, .slice a2 n2 d2, .int .i64 4, .int .i64 3, .int .i64 (lf1 : Int)] := by
    have := Blk.new (w1.setCell ⟨w.heap.size + 1, 4, none⟩ (.bool true)) #[.int .i64 5, .int .i64 0, .int .i64 0, .string ⟨#[97, 98, 99, 100, 101]⟩, .slice a1 n1 d1, .slice a2 n2 d2, .int .i64 4, .int .i64 3, .int .i64 (lf1 : Int)] 37
    rw [sz_put] at this
    exact this
  have hS2 := (hS1.set (j := 4) (.bool true)).alloc (.cells #[.int .i64 5, .int .i64 0, .int .i64 0, .string ⟨#[97, 98, 99, 100, 101]⟩, .slice a1 n1 d1, .slice a2 n2 d2, .int .i64 4, .int .i64 3, .int .i64 (lf1 : Int)] 37)
  have hN2 := (hN1.other (p := ⟨w.heap.size + 1, 4, none⟩) (.bool true) (by show w.heap.size + 1 ≠ w.heap.size; omega)).alloc (.cells #[.int .i64 5, .int .i64 0, .int .i64 0, .string ⟨#[97, 98, 99, 100, 101]⟩, .slice a1 n1 d1, .slice a2 n2 d2, .int .i64 4, .int .i64 3, .int .i64 (lf1 : Int)] 37)
  have hbw1 : Below w.heap.size w w1 := HBQ.out.trans (HB1.out.mono HBQ.out.size)
  have hb2 : Below w.heap.size w ((w1.setCell ⟨w.heap.size + 1, 4, none⟩ (.bool true)).alloc (.cells #[.int .i64 5, .int .i64 0, .int .i64 0, .string ⟨#[97, 98, 99, 100, 101]⟩, .slice a1 n1 d1, .slice a2 n2 d2, .int .i64 4, .int .i64 3, .int .i64 (lf1 : Int)] 37)) := (hbw1.setCell (p := ⟨w.heap.size + 1, 4, none⟩) (by show w.heap.size ≤ w.heap.size + 1; omega) _).alloc (by rw [sz_put]; exact hbw1.size) _
  have hL2 := HL0.out.below hb2
  generalize (w1.setCell ⟨w.heap.size + 1, 4, none⟩ (.bool true)).alloc (.cells #[.int .i64 5, .int .i64 0, .int .i64 0, .string ⟨#[97, 98, 99, 100, 101]⟩, .slice a1 n1 d1, .slice a2 n2 d2, .int .i64 4, .int .i64 3, .int .i64 (lf1 : Int)] 37) = w2 at hA2 hS2 hN2 hb2 hL2 ⊢
  generalize w1.heap.size = cb1 at hA2 ⊢
  dsimp only [List.set] at hS2
  have HA2 := Lib.hid hA2
  have HS2 := Lib.hid hS2
  have HN2 := Lib.hid hN2
  have HB2 := Lib.hid hb2
  have HL2 := Lib.hid hL2
  clear hA c0 c1 c2 c3 c4 c4' f4' c5 hlt1 hN1 hS1 hbw1 HB1 HBQ HN0 HS0 HLQ
  have c0 := hS2.cell 0 rfl
  have c1 := hS2.cell 1 rfl
  have c2 := hS2.cell 2 rfl
  have c3 := hS2.cell 3 rfl
  have c4 := hS2.cell 4 rfl
  have c5 := hS2.cell 5 rfl
  clear hA2 hS2 hN2 hb2 hL2
  go_wp2_with fail
  refine (HCOP.out true w2 HN2.out HL2.out).mono ?_
  rintro e1 w3 ⟨b1, m1, g1, b2, m2, g2, rfl, hb3, _, _, _, _⟩
  obtain ⟨e10, e11, e12⟩ := abc1
  rw [show (abcC true).2.2.toNat = 1 from rfl, e10, e12]
  obtain ⟨s2, hs2⟩ : ∃ s2, hasS (abcC true).1.t = Value.string s2 := ⟨_, rfl⟩
  rw [hs2]
  generalize ((abcC true).1.tot : Nat) = t2
  generalize ((abcC true).1.s.k : Nat) = k2
  generalize ((abcC true).1.s.left : Nat) = lf2
  have HB3 := Lib.hid hb3
  have c0 := cellAt hb3 c0
  have c1 := cellAt hb3 c1
  have c2 := cellAt hb3 c2
  have c3 := cellAt hb3 c3
  have c4 := cellAt hb3 c4
  have c5 := cellAt hb3 c5
  clear hb3 hs2 e10 e11 e12
  go_upto_region 5 with (fail)
  have hA3 := (HA2.out.below HB3.out).alloc (.cells #[.int .i64 (t2 : Int), .int .i64 0, .int .i64 1, .string s2, .slice b1 m1 g1, .slice b2 m2 g2, .int .i64 (k2 : Int), .int .i64 1, .int .i64 (lf2 : Int)] 37)
  have hC3 := Blk.new w3 #[.int .i64 (t2 : Int), .int .i64 0, .int .i64 1, .string s2, .slice b1 m1 g1, .slice b2 m2 g2, .int .i64 (k2 : Int), .int .i64 1, .int .i64 (lf2 : Int)] 37
  have hS3 := (HS2.out.below HB3.out).alloc (.cells #[.int .i64 (t2 : Int), .int .i64 0, .int .i64 1, .string s2, .slice b1 m1 g1, .slice b2 m2 g2, .int .i64 (k2 : Int), .int .i64 1, .int .i64 (lf2 : Int)] 37)
  have hN3 := (HN2.out.below HB3.out).alloc (.cells #[.int .i64 (t2 : Int), .int .i64 0, .int .i64 1, .string s2, .slice b1 m1 g1, .slice b2 m2 g2, .int .i64 (k2 : Int), .int .i64 1, .int .i64 (lf2 : Int)] 37)
  have hbw3 : Below w.heap.size w w3 := HB2.out.trans (HB3.out.mono HB2.out.size)
  have hb4 := hbw3.alloc hbw3.size (.cells #[.int .i64 (t2 : Int), .int .i64 0, .int .i64 1, .string s2, .slice b1 m1 g1, .slice b2 m2 g2, .int .i64 (k2 : Int), .int .i64 1, .int .i64 (lf2 : Int)] 37)
  have hL4 := HL0.out.below hb4
  generalize w3.alloc (.cells #[.int .i64 (t2 : Int), .int .i64 0, .int .i64 1, .string s2, .slice b1 m1 g1, .slice b2 m2 g2, .int .i64 (k2 : Int), .int .i64 1, .int .i64 (lf2 : Int)] 37) = w4 at hA3 hC3 hS3 hN3 hb4 hL4 ⊢
  generalize w3.heap.size = cb2 at hC3 ⊢
  have HA3 := Lib.hid hA3
  have HC3 := Lib.hid hC3
  have HS3 := Lib.hid hS3
  have HN3 := Lib.hid hN3
  have HB4 := Lib.hid hb4
  have HL4 := Lib.hid hL4
  clear c0 c1 c2 c3 c4 c5 HB3 HA2 HS2 HN2 HB2 HL2 hbw3
  have c0 := hS3.cell 0 rfl
  have c1 := hS3.cell 1 rfl
  have c2 := hS3.cell 2 rfl
  have c3 := hS3.cell 3 rfl
  have c4 := hS3.cell 4 rfl
  have c5 := hS3.cell 5 rfl
  clear hA3 hC3 hS3 hN3 hb4 hL4
  go_wp2_with fail
  refine (HATL.out true w4 HN3.out HL4.out).mono ?_
  rintro e5 w5 ⟨rfl, hb5⟩
  have c0 := cellAt hb5 c0
  have c1 := cellAt hb5 c1
  have c2 := cellAt hb5 c2
  have c3 := cellAt hb5 c3
  have c4 := cellAt hb5 c4
  have c5 := cellAt hb5 c5
  have a0 := cellAt hb5 (HA3.out.cell 0 rfl)
  have a3 := cellAt hb5 (HA3.out.cell 3 rfl)
  have a6 := cellAt hb5 (HA3.out.cell 6 rfl)
  have a7 := cellAt hb5 (HA3.out.cell 7 rfl)
  have x2 := cellAt hb5 (HC3.out.cell 2 rfl)
  have x7 := cellAt hb5 (HC3.out.cell 7 rfl)
  unfold abc
  have hab : ((⟨#[97, 98, 99, 100, 101]⟩ : ByteArray).toList == (⟨#[97, 98, 99, 100, 101]⟩ : ByteArray).toList) = true := by simp
  have HB5 := Lib.hid (HB4.out.trans (hb5.mono HB4.out.size))
  have HN5 := Lib.hid (HN3.out.below hb5)
  clear hb5
  go_wp2_with fail
  refine (HSRC.out true w5 HN5.out).mono ?_
  rintro e6 w6 ⟨rfl, hb6⟩
  have HB6 := Lib.hid (HB5.out.trans (hb6.mono HB5.out.size))
  clear hb6 c0 c1 c2 c3 c4 c5 a0 a3 a6 a7 x2 x7
  go_wp2
  go_ret
  exact ⟨rfl, HB6.out⟩
end Go.Proofs.YtigfgdefgnahpaaDoor
