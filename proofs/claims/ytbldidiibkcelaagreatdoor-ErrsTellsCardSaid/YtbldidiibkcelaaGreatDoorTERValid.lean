/-
  The document's Valid of an error (walk). Not a statement of the seat.
-/
import Derived.Test.YtbldidiibkcelaaGreatDoorTERight
import Derived.Test.YtbldidiibkcelaaGreatDoorTECount
import Derived.Test.YtbldidiibkcelaaGreatDoorTEFields
import Derived.Test.YtbldidiibkcelaaGreatDoorTEMem
import Derived.RegionTactic
import Derived.ChangeAlike
namespace Go.Proofs.YtbldidiibkcelaaGreatDoor
open Go.RowKit

set_option maxHeartbeats 8000000 in
set_option maxRecDepth 100000 in
theorem ervalidN {S : Nat → Prop} {k i c : Int} {t : Bs} {b : Dt} {cs : List Int} {kids : Eo} {bl : Option Addr} {bn bc : Nat} {cl : Option Addr} {cn cc : Nat} {l : Option Addr} {n cap : Nat} {w : World} (hE : ErAt S w ⟨k, i, c, t, b, cs, kids⟩ bl bn bc cl cn cc l n cap)
    (hS : ∀ x, S x → x < w.heap.size) (hcs : cs.length ≤ 140737488355328) (hks : kids.small) :
    Calls Tryz.prog 10 #[vE k i c t b bl bn bc cl cn cc l n cap] w (fun r w' => r = .returned (.bool (ervalidM ⟨k, i, c, t, b, cs, kids⟩)) ∧ Below w.heap.size w w') := by
  have hrr : ervalidM ⟨k, i, c, t, b, cs, kids⟩ = (decide (ecnt kids 1 4096 ≤ 4096) && (rright1 k i c t b cs kids && decide (ewtL kids (rwtE k b cs) ≤ 4096))) := rfl
  generalize ervalidM ⟨k, i, c, t, b, cs, kids⟩ = res at *
  have HM := Lib.hid hrr
  clear hrr
  have hA := ebox_blk w k i c t b bl bn bc cl cn cc l n cap
  have hBA := ebox_below w k i c t b bl bn bc cl cn cc l n cap
  have hW := ewtL_le kids (rwtE k b cs) 140737488359425 hks (by omega) (by unfold rwtE; have := rsizeD_le b; split <;> omega) (by omega)
  have hN := ecnt_le kids 1 4096 (by omega)
  unfold vE
  go_enter Tryz.func10, Tryz.ntmps10
  go_upto_region 1 with (fail)
  change Code.wp _ _ _ _ (ebox w k i c t b bl bn bc cl cn cc l n cap)
  generalize ebox w k i c t b bl bn bc cl cn cc l n cap = w1 at *
  have HC1 := Lib.hid (fun (wx : World) (hx : Below w.heap.size w wx) => show Calls Tryz.prog 38 #[vE k i c t b bl bn bc cl cn cc l n cap, .int .i64 1, .int .i64 4096] wx (fun e w' => e = .returned (.int .i64 (ecnt kids 1 4096 : Nat)) ∧ Below wx.heap.size wx w') from ecountG kids k i c t b bl bn bc cl cn cc l n cap S 1 4096 wx (hE.same (fun x _ hlt => hx.block x hlt) (fun x hx _ => hx)).2.2 (fun x hx' => Nat.lt_of_lt_of_le (hS x hx') hx.size) (by omega) (by omega))
  have HC2 := Lib.hid (fun (wx : World) (hx : Below w.heap.size w wx) => erightG kids k i c t b cs bl bn bc cl cn cc l n cap S wx (hE.same (fun x _ hlt => hx.block x hlt) (fun x hx _ => hx)) (fun x hx' => Nat.lt_of_lt_of_le (hS x hx') hx.size))
  have HC3 := Lib.hid (fun (wx : World) (hx : Below w.heap.size w wx) => eweightG kids k i c t b cs bl bn bc cl cn cc l n cap S wx (hE.same (fun x _ hlt => hx.block x hlt) (fun x hx _ => hx)) (fun x hx' => Nat.lt_of_lt_of_le (hS x hx') hx.size) hcs hks)
  unfold vE at HC1 HC2 HC3
  have HX := Lib.hid hA
  have HB := Lib.hid hBA
  have x0 := hA.cell 0 rfl; have x1 := hA.cell 1 rfl; have x2 := hA.cell 2 rfl; have x3 := hA.cell 3 rfl; have x4 := hA.cell 4 rfl; have x5 := hA.cell 5 rfl; have x6 := hA.cell 6 rfl; have x7 := hA.cell 7 rfl; have x8 := hA.cell 8 rfl; have x9 := hA.cell 9 rfl; have x10 := hA.cell 10 rfl
  clear hA hBA hE hS hcs hks
  generalize ecnt kids 1 4096 = N at *
  generalize ewtL kids (rwtE k b cs) = WT at *
  generalize rright1 k i c t b cs kids = R at *
  by_cases hN1 : N ≤ 4096
  · have hj : (N : Int) ≤ 4096 := by omega
    cases R
    · go_wp2_with (first
        | (go_at_call 38; (with_reducible refine (HC1.out _ HB.out).mono ?_); rintro e2 w2 ⟨rfl, hB⟩; have HB2 := Lib.hid (HB.out.trans (hB.mono HB.out.size)); have hx := HX.out.below hB; have y0 := hx.cell 0 rfl; have y1 := hx.cell 1 rfl; have y2 := hx.cell 2 rfl; have y3 := hx.cell 3 rfl; have y4 := hx.cell 4 rfl; have y5 := hx.cell 5 rfl; have y6 := hx.cell 6 rfl; have y7 := hx.cell 7 rfl; have y8 := hx.cell 8 rfl; have y9 := hx.cell 9 rfl; have y10 := hx.cell 10 rfl; have HX2 := Lib.hid hx; clear hB hx x0 x1 x2 x3 x4 x5 x6 x7 x8 x9 x10)
        | (go_at_call 39; (with_reducible refine (HC2.out _ HB2.out).mono ?_); rintro e3 w3 ⟨rfl, hB⟩; have HB3 := Lib.hid (HB2.out.trans (hB.mono HB2.out.size)); clear hB))
      go_ret
      exact ⟨by rw [HM.out]; simp, HB3.out⟩
    · by_cases hW1 : WT ≤ 4096
      · have hjw : (WT : Int) ≤ 4096 := by omega
        go_wp2_with (first
          | (go_at_call 38; (with_reducible refine (HC1.out _ HB.out).mono ?_); rintro e2 w2 ⟨rfl, hB⟩; have HB2 := Lib.hid (HB.out.trans (hB.mono HB.out.size)); have hx := HX.out.below hB; have y0 := hx.cell 0 rfl; have y1 := hx.cell 1 rfl; have y2 := hx.cell 2 rfl; have y3 := hx.cell 3 rfl; have y4 := hx.cell 4 rfl; have y5 := hx.cell 5 rfl; have y6 := hx.cell 6 rfl; have y7 := hx.cell 7 rfl; have y8 := hx.cell 8 rfl; have y9 := hx.cell 9 rfl; have y10 := hx.cell 10 rfl; have HX2 := Lib.hid hx; clear hB hx x0 x1 x2 x3 x4 x5 x6 x7 x8 x9 x10)
          | (go_at_call 39; (with_reducible refine (HC2.out _ HB2.out).mono ?_); rintro e3 w3 ⟨rfl, hB⟩; have HB3 := Lib.hid (HB2.out.trans (hB.mono HB2.out.size)); have hx := HX2.out.below hB; have z0 := hx.cell 0 rfl; have z1 := hx.cell 1 rfl; have z2 := hx.cell 2 rfl; have z3 := hx.cell 3 rfl; have z4 := hx.cell 4 rfl; have z5 := hx.cell 5 rfl; have z6 := hx.cell 6 rfl; have z7 := hx.cell 7 rfl; have z8 := hx.cell 8 rfl; have z9 := hx.cell 9 rfl; have z10 := hx.cell 10 rfl; clear hB hx y0 y1 y2 y3 y4 y5 y6 y7 y8 y9 y10)
          | (go_at_call 40; (with_reducible refine (HC3.out _ HB3.out).mono ?_); rintro e4 w4 ⟨rfl, hB⟩; have HB4 := Lib.hid (HB3.out.trans (hB.mono HB3.out.size)); clear hB))
        go_ret
        exact ⟨by rw [HM.out]; simp [hN1, hW1], HB4.out⟩
      · have hjw : ¬ (WT : Int) ≤ 4096 := by omega
        go_wp2_with (first
          | (go_at_call 38; (with_reducible refine (HC1.out _ HB.out).mono ?_); rintro e2 w2 ⟨rfl, hB⟩; have HB2 := Lib.hid (HB.out.trans (hB.mono HB.out.size)); have hx := HX.out.below hB; have y0 := hx.cell 0 rfl; have y1 := hx.cell 1 rfl; have y2 := hx.cell 2 rfl; have y3 := hx.cell 3 rfl; have y4 := hx.cell 4 rfl; have y5 := hx.cell 5 rfl; have y6 := hx.cell 6 rfl; have y7 := hx.cell 7 rfl; have y8 := hx.cell 8 rfl; have y9 := hx.cell 9 rfl; have y10 := hx.cell 10 rfl; have HX2 := Lib.hid hx; clear hB hx x0 x1 x2 x3 x4 x5 x6 x7 x8 x9 x10)
          | (go_at_call 39; (with_reducible refine (HC2.out _ HB2.out).mono ?_); rintro e3 w3 ⟨rfl, hB⟩; have HB3 := Lib.hid (HB2.out.trans (hB.mono HB2.out.size)); have hx := HX2.out.below hB; have z0 := hx.cell 0 rfl; have z1 := hx.cell 1 rfl; have z2 := hx.cell 2 rfl; have z3 := hx.cell 3 rfl; have z4 := hx.cell 4 rfl; have z5 := hx.cell 5 rfl; have z6 := hx.cell 6 rfl; have z7 := hx.cell 7 rfl; have z8 := hx.cell 8 rfl; have z9 := hx.cell 9 rfl; have z10 := hx.cell 10 rfl; clear hB hx y0 y1 y2 y3 y4 y5 y6 y7 y8 y9 y10)
          | (go_at_call 40; (with_reducible refine (HC3.out _ HB3.out).mono ?_); rintro e4 w4 ⟨rfl, hB⟩; have HB4 := Lib.hid (HB3.out.trans (hB.mono HB3.out.size)); clear hB))
        go_ret
        exact ⟨by rw [HM.out]; simp [hN1, hW1, hjw], HB4.out⟩
  · have hj : ¬ (N : Int) ≤ 4096 := by omega
    go_wp2_with (go_at_call 38; (with_reducible refine (HC1.out _ HB.out).mono ?_); rintro e2 w2 ⟨rfl, hB⟩; have HB2 := Lib.hid (HB.out.trans (hB.mono HB.out.size)); clear hB)
    go_ret
    exact ⟨by rw [HM.out]; simp [hN1], HB2.out⟩
end Go.Proofs.YtbldidiibkcelaaGreatDoor

/-
  The program's Same of two errors (walks). Not a statement of the seat.
-/
namespace Go.Proofs.YtbldidiibkcelaaGreatDoor
open Go.RowKit

/-- two values are the same -/
def sameDt (b b' : Dt) : Bool := headM b.k b.i b.b b.t b.l.len b'.k b'.i b'.b b'.t b'.l.len && sameM b.l b'.l
/-- two rows of errors are the same -/
def esameM : Eo → Eo → Bool
  | .nil, .nil => true
  | .cons k i c t b cs kids rest, .cons k' i' c' t' b' cs' kids' rest' => (k == k' && (i == i' && (c == c' && (t == t' && (sameDt b b' && (cs == cs' && esameM kids kids')))))) && esameM rest rest'
  | _, _ => false
/-- .. two errors -/
def esame1 (k i c : Int) (t : Bs) (b : Dt) (cs : List Int) (kids : Eo) (k' i' c' : Int) (t' : Bs) (b' : Dt) (cs' : List Int) (kids' : Eo) : Bool := k == k' && (i == i' && (c == c' && (t == t' && (sameDt b b' && (cs == cs' && esameM kids kids')))))
theorem esameM_len : ∀ (f g : Eo), esameM f g = true → f.len = g.len
  | .nil, .nil, _ => rfl
  | .cons _ _ _ _ _ _ _ r, .cons _ _ _ _ _ _ _ r', h => by
    simp only [esameM, Bool.and_eq_true] at h
    simp only [Eo.len, esameM_len r r' h.2]
  | .nil, .cons _ _ _ _ _ _ _ _, h => by simp [esameM] at h
  | .cons _ _ _ _ _ _ _ _, .nil, h => by simp [esameM] at h
def ESRel (kids g : Eo) (w : World) (t17 : Value) (wr : World) : Prop := ∃ (dn dn' rest rest' : Eo), t17 = .int .i64 (dn.len : Nat) ∧ dn'.len = dn.len ∧ kids = dn.app rest ∧ g = dn'.app rest' ∧ Below w.heap.size w wr ∧ esameM kids g = esameM rest rest'
/-- the boxes of two errors -/
def ebox2 (w : World) (k i c : Int) (t : Bs) (b : Dt) (bl : Option Addr) (bn bc : Nat) (cl : Option Addr) (cn cc : Nat) (l : Option Addr) (n cap : Nat) (k' i' c' : Int) (t' : Bs) (b' : Dt) (bl' : Option Addr) (bn' bc' : Nat) (cl' : Option Addr) (cn' cc' : Nat) (l' : Option Addr) (n' cap' : Nat) : World :=
  ebox (ebox w k i c t b bl bn bc cl cn cc l n cap) k' i' c' t' b' bl' bn' bc' cl' cn' cc' l' n' cap'
theorem ebox2_facts (w : World) (k i c : Int) (t : Bs) (b : Dt) (bl : Option Addr) (bn bc : Nat) (cl : Option Addr) (cn cc : Nat) (l : Option Addr) (n cap : Nat) (k' i' c' : Int) (t' : Bs) (b' : Dt) (bl' : Option Addr) (bn' bc' : Nat) (cl' : Option Addr) (cn' cc' : Nat) (l' : Option Addr) (n' cap' : Nat) :
    Blk (ebox2 w k i c t b bl bn bc cl cn cc l n cap k' i' c' t' b' bl' bn' bc' cl' cn' cc' l' n' cap') w.heap.size (V11 k i c t b bl bn bc cl cn cc l n cap) ∧
    Blk (ebox2 w k i c t b bl bn bc cl cn cc l n cap k' i' c' t' b' bl' bn' bc' cl' cn' cc' l' n' cap') (w.heap.size + 1) (V11 k' i' c' t' b' bl' bn' bc' cl' cn' cc' l' n' cap') ∧
    Below w.heap.size w (ebox2 w k i c t b bl bn bc cl cn cc l n cap k' i' c' t' b' bl' bn' bc' cl' cn' cc' l' n' cap') ∧ (ebox2 w k i c t b bl bn bc cl cn cc l n cap k' i' c' t' b' bl' bn' bc' cl' cn' cc' l' n' cap').heap.size = w.heap.size + 2 := by
  have e1 : (ebox w k i c t b bl bn bc cl cn cc l n cap).heap.size = w.heap.size + 1 := by simp [ebox]
  have h1 := ebox_blk w k i c t b bl bn bc cl cn cc l n cap
  have hb := ebox_below w k i c t b bl bn bc cl cn cc l n cap
  unfold ebox2
  generalize ebox w k i c t b bl bn bc cl cn cc l n cap = w1 at *
  have h2 := ebox_blk w1 k' i' c' t' b' bl' bn' bc' cl' cn' cc' l' n' cap'
  have hb2 := ebox_below w1 k' i' c' t' b' bl' bn' bc' cl' cn' cc' l' n' cap'
  have e2 : (ebox w1 k' i' c' t' b' bl' bn' bc' cl' cn' cc' l' n' cap').heap.size = w1.heap.size + 1 := by simp [ebox]
  rw [e1] at h2
  exact ⟨h1.below hb2, h2, hb.trans (hb2.mono hb.size), by rw [e2, e1]⟩
end Go.Proofs.YtbldidiibkcelaaGreatDoor

/-
  The document's Same of two errors (walk). Not a statement of the seat.
-/
namespace Go.Proofs.YtbldidiibkcelaaGreatDoor
open Go.RowKit

def ERSOK (kids : Eo) : Prop := ∀ (g : Eo) (k i c k' i' c' : Int) (t t' : Bs) (b b' : Dt) (cs cs' : List Int) (bl : Option Addr) (bn bc : Nat) (cl : Option Addr) (cn cc : Nat) (l : Option Addr) (n cap : Nat) (bl' : Option Addr) (bn' bc' : Nat) (cl' : Option Addr) (cn' cc' : Nat) (l' : Option Addr) (n' cap' : Nat) (S : Nat → Prop) (w : World),
  ErAt S w ⟨k, i, c, t, b, cs, kids⟩ bl bn bc cl cn cc l n cap → ErAt S w ⟨k', i', c', t', b', cs', g⟩ bl' bn' bc' cl' cn' cc' l' n' cap' → (∀ x, S x → x < w.heap.size) →
  Calls Tryz.prog 15 #[vE k i c t b bl bn bc cl cn cc l n cap, vE k' i' c' t' b' bl' bn' bc' cl' cn' cc' l' n' cap'] w (fun e w' => e = .returned (.bool (esame1 k i c t b cs kids k' i' c' t' b' cs' g)) ∧ Below w.heap.size w w')
def CqRel2 (xs ys : List Int) (w : World) (t13 : Value) (wr : World) : Prop := ∃ j : Nat, t13 = .int .i64 (j : Nat) ∧ Below w.heap.size w wr ∧ j ≤ xs.length ∧ (xs == ys) = (xs.drop j == ys.drop j)
set_option maxRecDepth 100000 in
set_option maxHeartbeats 32000000 in
theorem ersameN {kids : Eo} (hall : kids.All ERSOK) : ERSOK kids := by
  intro g k i c k' i' c' t t' b b' cs cs' bl bn bc cl cn cc l n cap bl' bn' bc' cl' cn' cc' l' n' cap' S w hE hE' hS
  obtain ⟨hA, hA', hB, _⟩ := ebox2_facts w k i c t b bl bn bc cl cn cc l n cap k' i' c' t' b' bl' bn' bc' cl' cn' cc' l' n' cap'
  have hres : esame1 k i c t b cs kids k' i' c' t' b' cs' g = (k == k' && (i == i' && (c == c' && (t == t' && (sameDt b b' && (cs == cs' && esameM kids g)))))) := rfl
  generalize esame1 k i c t b cs kids k' i' c' t' b' cs' g = res at *
  have HR := Lib.hid hres
  clear hres
  have hbn := hE.1.len
  have hbn' := hE'.1.len
  have hcs : cs.length = cn := by have h : (I8 cs).length = cn * 1 := hE.2.1.1.1; rw [I8_length] at h; omega
  have hcs' : cs'.length = cn' := by have h : (I8 cs').length = cn' * 1 := hE'.2.1.1.1; rw [I8_length] at h; omega
  have hcm : cn ≤ 9223372036854775807 := by have h1 := hE.2.1.1.le; have h2 := hE.2.1.1.max; unfold maxLen at h2; omega
  have hkl := hE.2.2.len
  have hkl' := hE'.2.2.len
  have HC1 := Lib.hid (fun (wx : World) (hx : Below w.heap.size w wx) => show Calls Tryz.prog 49 #[.agg #[.int .i64 b.k, .int .i64 b.i, .int .u64 b.b, .string ⟨b.t.toArray⟩, .slice bl bn bc], .agg #[.int .i64 b'.k, .int .i64 b'.i, .int .u64 b'.b, .string ⟨b'.t.toArray⟩, .slice bl' bn' bc']] wx (fun e w' => e = .returned (.bool (sameDt b b')) ∧ Below wx.heap.size wx w') from by
    have h := rsameG b.l b'.l b.k b.i b.b b'.k b'.i b'.b b.t b'.t bl bl' bn bc bn' bc' S wx (hE.1.same (w' := wx) (fun x _ hlt => hx.block x hlt) (fun x hx2 _ => hx2)) (hE'.1.same (w' := wx) (fun x _ hlt => hx.block x hlt) (fun x hx2 _ => hx2)) (fun x hx2 => Nat.lt_of_lt_of_le (hS x hx2) hx.size)
    unfold sameDt
    rw [hbn, hbn']
    exact h)
  have HE := Lib.hid (And.intro hE hE')
  have HS := Lib.hid hS
  have HALL := Lib.hid hall
  have HLEN := Lib.hid (And.intro (And.intro hcs hcs') (And.intro hkl hkl'))
  have HCM := Lib.hid hcm
  clear hE hE' hS hall hbn hbn' hcs hcs' hkl hkl' hcm
  unfold vE
  go_enter Tryz.func15, Tryz.ntmps15
  go_upto_region 1 with (fail)
  change Code.wp _ _ _ _ (ebox2 w k i c t b bl bn bc cl cn cc l n cap k' i' c' t' b' bl' bn' bc' cl' cn' cc' l' n' cap')
  generalize ebox2 w k i c t b bl bn bc cl cn cc l n cap k' i' c' t' b' bl' bn' bc' cl' cn' cc' l' n' cap' = w1 at *
  generalize sameDt b b' = sd at *
  have HX := Lib.hid (And.intro hA hA')
  have HB := Lib.hid hB
  obtain ⟨q, hqq⟩ : ∃ x, x = w.heap.size + 1 := ⟨_, rfl⟩
  obtain ⟨p, hpp⟩ : ∃ x, x = w.heap.size := ⟨_, rfl⟩
  rw [← hqq, ← hpp] at HX
  rw [← hqq] at hA'
  rw [← hpp] at hA
  rw [← hqq, ← hpp]
  have x0 := hA.cell 0 rfl; have y0 := hA'.cell 0 rfl
  have x1 := hA.cell 1 rfl; have y1 := hA'.cell 1 rfl
  have x2 := hA.cell 2 rfl; have y2 := hA'.cell 2 rfl
  have x3 := hA.cell 3 rfl; have y3 := hA'.cell 3 rfl
  have x4 := hA.cell 4 rfl; have y4 := hA'.cell 4 rfl
  have x5 := hA.cell 5 rfl; have y5 := hA'.cell 5 rfl
  have x6 := hA.cell 6 rfl; have y6 := hA'.cell 6 rfl
  have x7 := hA.cell 7 rfl; have y7 := hA'.cell 7 rfl
  have x8 := hA.cell 8 rfl; have y8 := hA'.cell 8 rfl
  have x9 := hA.cell 9 rfl; have y9 := hA'.cell 9 rfl
  have x10 := hA.cell 10 rfl; have y10 := hA'.cell 10 rfl
  clear hA hA' hB hpp hqq
  cases h1 : (k == k')
  · have H1P := Lib.hid h1
    have h1n : (k != k') = true := by simp [bne, h1]
    go_wp2_with fail
    go_ret
    exact ⟨by rw [HR.out, H1P.out]; rfl, HB.out⟩
  · have H1P := Lib.hid h1
    have h1n : (k != k') = false := by simp [bne, h1]
    cases h2 : (i == i')
    · have H2P := Lib.hid h2
      have h2n : (i != i') = true := by simp [bne, h2]
      go_wp2_with fail
      go_ret
      exact ⟨by rw [HR.out, H1P.out, H2P.out]; rfl, HB.out⟩
    · have H2P := Lib.hid h2
      have h2n : (i != i') = false := by simp [bne, h2]
      cases h3 : (c == c')
      · have H3P := Lib.hid h3
        have h3n : (c != c') = true := by simp [bne, h3]
        go_wp2_with fail
        go_ret
        exact ⟨by rw [HR.out, H1P.out, H2P.out, H3P.out]; rfl, HB.out⟩
      · have H3P := Lib.hid h3
        have h3n : (c != c') = false := by simp [bne, h3]
        cases h4 : (t == t')
        · have H4P := Lib.hid h4
          go_wp2_with fail
          go_ret
          exact ⟨by rw [HR.out, H1P.out, H2P.out, H3P.out, H4P.out]; rfl, HB.out⟩
        · have H4P := Lib.hid h4
          have h4p := h4
          simp only [beq_iff_eq] at h4p
          subst h4p
          clear h4
          cases sd
          · go_wp2_with (go_at_call 49; (with_reducible refine (HC1.out _ HB.out).mono ?_); rintro eA wA ⟨rfl, hb⟩; have HBA := Lib.hid (HB.out.trans (hb.mono HB.out.size)); have hx := HX.out.1.below hb; have hy := HX.out.2.below hb; have u9 := hx.cell 9 rfl; have v9 := hy.cell 9 rfl; have u10 := hx.cell 10 rfl; have v10 := hy.cell 10 rfl; have HX2 := Lib.hid (And.intro hx hy); clear hb hx hy x0 y0 x1 y1 x2 y2 x3 y3 x4 y4 x5 y5 x6 y6 x7 y7 x8 y8 x9 y9 x10 y10)
            go_ret
            exact ⟨by rw [HR.out, H1P.out, H2P.out, H3P.out, H4P.out]; rfl, HBA.out⟩
          · have HR2 := Lib.hid (show res = (cs == cs' && esameM kids g) by rw [HR.out, H1P.out, H2P.out, H3P.out, H4P.out]; rfl)
            clear HR
            by_cases hcn : cn = cn'
            rotate_left
            · have hcb : ((cn : Int) != (cn' : Int)) = true := by simp; omega
              have HF := Lib.hid (show res = false by
                rw [HR2.out, show (cs == cs') = false by rw [beq_eq_false_iff_ne]; rintro rfl; exact hcn (HLEN.out.1.1.symm.trans HLEN.out.1.2)]; rfl)
              clear hcn
              go_wp2_with (go_at_call 49; (with_reducible refine (HC1.out _ HB.out).mono ?_); rintro eA wA ⟨rfl, hb⟩; have HBA := Lib.hid (HB.out.trans (hb.mono HB.out.size)); have hx := HX.out.1.below hb; have hy := HX.out.2.below hb; have u9 := hx.cell 9 rfl; have v9 := hy.cell 9 rfl; have u10 := hx.cell 10 rfl; have v10 := hy.cell 10 rfl; have HX2 := Lib.hid (And.intro hx hy); clear hb hx hy x0 y0 x1 y1 x2 y2 x3 y3 x4 y4 x5 y5 x6 y6 x7 y7 x8 y8 x9 y9 x10 y10)
              go_ret
              exact ⟨by rw [HF.out]; rfl, HBA.out⟩
            by_cases hnn : n = n'
            rotate_left
            · have hcb : ((cn : Int) != (cn' : Int)) = false := by simp [hcn]
              have hnb : ((n : Int) != (n' : Int)) = true := by simp; omega
              have HF := Lib.hid (show res = false by
                rw [HR2.out]
                cases h : esameM kids g
                · simp
                · exact absurd (HLEN.out.2.1.symm.trans ((esameM_len kids g h).trans HLEN.out.2.2)) hnn)
              clear hcn hnn
              go_wp2_with (go_at_call 49; (with_reducible refine (HC1.out _ HB.out).mono ?_); rintro eA wA ⟨rfl, hb⟩; have HBA := Lib.hid (HB.out.trans (hb.mono HB.out.size)); have hx := HX.out.1.below hb; have hy := HX.out.2.below hb; have u9 := hx.cell 9 rfl; have v9 := hy.cell 9 rfl; have u10 := hx.cell 10 rfl; have v10 := hy.cell 10 rfl; have HX2 := Lib.hid (And.intro hx hy); clear hb hx hy x0 y0 x1 y1 x2 y2 x3 y3 x4 y4 x5 y5 x6 y6 x7 y7 x8 y8 x9 y9 x10 y10)
              go_ret
              exact ⟨by rw [HF.out]; rfl, HBA.out⟩
            subst hcn
            subst hnn
            have hcb : ((cn : Int) != (cn : Int)) = false := by simp
            have hnb : ((n : Int) != (n : Int)) = false := by simp
            go_upto_block 0 with (go_at_call 49; (with_reducible refine (HC1.out _ HB.out).mono ?_); rintro eA wA ⟨rfl, hb⟩; have HBA := Lib.hid (HB.out.trans (hb.mono HB.out.size)); have hx := HX.out.1.below hb; have hy := HX.out.2.below hb; have u9 := hx.cell 9 rfl; have v9 := hy.cell 9 rfl; have u10 := hx.cell 10 rfl; have v10 := hy.cell 10 rfl; have HX2 := Lib.hid (And.intro hx hy); clear hb hx hy x0 y0 x1 y1 x2 y2 x3 y3 x4 y4 x5 y5 x6 y6 x7 y7 x8 y8 x9 y9 x10 y10)
            have HX0 := Lib.hid (show Blk wA p _ ∧ Blk wA q _ from HX2.out)
            clear u9 u10 v9 v10
            go_wp2_with fail
            go_loopw [62] (fun t62 wr => CqRel2 cs cs' w t62 wr ∧ Below wA.heap.size wA wr) (fun t62 _ => cn - (intOf t62).toNat)
            case atStart => exact ⟨⟨0, rfl, HBA.out, Nat.zero_le _, by simp⟩, Below.refl _ _⟩
            case round =>
              obtain ⟨⟨j, rfl, hBw, hj, hq⟩, hB1⟩ := hrel
              have hFr := (HE.out.1.same (w' := wr) (fun x hx hlt => hBw.block x hlt) (fun x hx _ => hx)).2.1.1
              have hGr := (HE.out.2.same (w' := wr) (fun x hx hlt => hBw.block x hlt) (fun x hx _ => hx)).2.1.1
              have HBw := Lib.hid hBw
              have HB1 := Lib.hid hB1
              have hx := HX2.out.1.below hB1
              have hy := HX2.out.2.below hB1
              have z9 := hx.cell 9 rfl
              have z9' := hy.cell 9 rfl
              have HXW := Lib.hid (And.intro hx hy)
              clear hx hy
              by_cases hjn : j < cn
              · have hlt : j < cs.length := by rw [HLEN.out.1.1]; exact hjn
                have hlt' : j < cs'.length := by rw [HLEN.out.1.2]; exact hjn
                have hv : (j : Int) < (cn : Int) := by omega
                obtain ⟨bb, off, rfl, hltb, hcell⟩ : ∃ b off, cl = some ⟨b, off, none⟩ ∧ b < wr.heap.size ∧ wr.cell? ⟨b, off + j, none⟩ = some (.int .i64 (cs[j]'hlt)) := by
                  obtain ⟨b, off, ha, hb, hc⟩ := hFr.at (k := j) hjn
                  have h := hc 0 (by omega)
                  exact ⟨b, off, ha, hb, by rw [Nat.mul_one, Nat.add_zero] at h; rw [h]; simp [I8, hlt]⟩
                obtain ⟨bb', off', rfl, hltb', hcell'⟩ : ∃ b off, cl' = some ⟨b, off, none⟩ ∧ b < wr.heap.size ∧ wr.cell? ⟨b, off + j, none⟩ = some (.int .i64 (cs'[j]'hlt')) := by
                  obtain ⟨b, off, ha, hb, hc⟩ := hGr.at (k := j) hjn
                  have h := hc 0 (by omega)
                  exact ⟨b, off, ha, hb, by rw [Nat.mul_one, Nat.add_zero] at h; rw [h]; simp [I8, hlt']⟩
                have hd : (cs.drop j == cs'.drop j) = ((cs[j]'hlt == cs'[j]'hlt') && (cs.drop (j + 1) == cs'.drop (j + 1))) := by
                  rw [List.drop_eq_getElem_cons hlt, List.drop_eq_getElem_cons hlt']; rfl
                rw [hd] at hq
                generalize cs[j]'hlt = x at *
                generalize cs'[j]'hlt' = y at *
                have HQ := Lib.hid hq
                have HJ := Lib.hid hjn
                have hjx : ((j : Nat) : Int) + 1 ≤ 9223372036854775807 := by have := HCM.out; omega
                clear hq hd hlt hlt' hltb hltb' hj hFr hGr hBw hB1
                by_cases hxy : x = y
                · have hxe : (x != y) = false := by simp [hxy]
                  have HE2 := Lib.hid hxy
                  clear hxy
                  go_upto_region 6 with fail
                  go_region
                  go_wp2_with fail
                  go_roundw
                  case rel => exact ⟨⟨j + 1, by go_num, HBw.out.drew, by have := HJ.out; have := HLEN.out.1.1; omega, by rw [HQ.out, HE2.out]; simp⟩, HB1.out.drew⟩
                  case measure => simp [intOf]; have := HJ.out; omega
                · have hxe : (x != y) = true := by simpa using hxy
                  have HE2 := Lib.hid hxy
                  clear hxy
                  go_upto_region 6 with fail
                  go_region
                  go_wp2_with fail
                  go_ret
                  exact ⟨by rw [HR2.out, HQ.out]; simp [HE2.out], HBw.out.drew⟩
              · have hv : ¬ (j : Int) < (cn : Int) := by omega
                have hsc : (cs == cs') = true := by rw [hq, List.drop_of_length_le (by have := HLEN.out.1.1; omega), List.drop_of_length_le (by have := HLEN.out.1.2; omega)]; rfl
                have HR3 := Lib.hid (show res = esameM kids g by rw [HR2.out, hsc]; rfl)
                clear hq hjn hj hFr hGr hBw hB1 hsc HR2
                rename World => wZ
                have z10 := HXW.out.1.cell 10 rfl
                have z10' := HXW.out.2.cell 10 rfl
                go_upto_region 9 with fail
                go_wp2_with fail
                go_loopw [80] (fun t80 wr => ESRel kids g w t80 wr ∧ Below wZ.heap.size wZ wr) (fun t80 _ => n - (intOf t80).toNat)
                case atStart => exact ⟨⟨.nil, .nil, kids, g, rfl, rfl, rfl, rfl, HBw.out, rfl⟩, Below.refl _ _⟩
                case round =>
                  obtain ⟨⟨dn, dn', rest, rest', rfl, hdl, hk, hk', hBw, hq⟩, hB1⟩ := hrel
                  have HBw2 := Lib.hid hBw
                  have HB2 := Lib.hid hB1
                  have hF := (HE.out.1.same (w' := wr) (fun x hx hlt => hBw.block x hlt) (fun x hx _ => hx)).2.2
                  have hG := (HE.out.2.same (w' := wr) (fun x hx hlt => hBw.block x hlt) (fun x hx _ => hx)).2.2
                  have c10 := (HXW.out.1.below hB1).cell 10 rfl
                  have c10' := (HXW.out.2.below hB1).cell 10 rfl
                  have hlen := hF.len
                  have hlen' := hG.len
                  rw [show (Et.l ⟨k, i, c, t, b, cs, kids⟩) = kids from rfl, hk, Eo.len_app] at hlen
                  rw [show (Et.l ⟨k', i', c', t, b', cs', g⟩) = g from rfl, hk', Eo.len_app] at hlen'
                  clear hBw hB1 z10 z10' z9 z9'
                  cases rest with
                  | nil =>
                    have hj : ¬ (dn.len : Int) < (n : Int) := by have : Eo.len .nil = 0 := rfl; omega
                    cases rest' with
                    | cons k2 i2 c2 t2 b2 cs2 ks r2 =>
                      have hlr : (Eo.cons k2 i2 c2 t2 b2 cs2 ks r2).len = r2.len + 1 := rfl
                      have : Eo.len .nil = 0 := rfl
                      omega
                    | nil =>
                    have HQ := Lib.hid hq
                    clear hq hk hk' hlen hlen' hF hG hdl
                    go_wp2_with fail
                    go_ret
                    exact ⟨by rw [HR3.out, HQ.out]; rfl, HBw2.out⟩
                  | cons k2 i2 c2 t2 b2 cs2 ks r2 =>
                    have hlr : (Eo.cons k2 i2 c2 t2 b2 cs2 ks r2).len = r2.len + 1 := rfl
                    cases rest' with
                    | nil =>
                      have : Eo.len .nil = 0 := rfl
                      omega
                    | cons k3 i3 c3 t3 b3 cs3 ks3 r3 =>
                    rw [show (Et.l ⟨k, i, c, t, b, cs, kids⟩) = kids from rfl, hk] at hF
                    rw [show (Et.l ⟨k', i', c', t, b', cs', g⟩) = g from rfl, hk'] at hG
                    obtain ⟨bb, off, bl2, bn2, bc2, cl2, cn2, cc2, a2, n2, cp2, rfl, hkF, he, hnb2, hjn⟩ := hF.elem
                    obtain ⟨bb', off', bl3, bn3, bc3, cl3, cn3, cc3, a3, n3, cp3, rfl, hgF, hf, hnb', hjn'⟩ := hG.elem
                    rw [hdl] at hf
                    have e0 := he 0 (by omega); have f0 := hf 0 (by omega)
                    have e1 := he 1 (by omega); have f1 := hf 1 (by omega)
                    have e2 := he 2 (by omega); have f2 := hf 2 (by omega)
                    have e3 := he 3 (by omega); have f3 := hf 3 (by omega)
                    have e4 := he 4 (by omega); have f4 := hf 4 (by omega)
                    have e5 := he 5 (by omega); have f5 := hf 5 (by omega)
                    have e6 := he 6 (by omega); have f6 := hf 6 (by omega)
                    have e7 := he 7 (by omega); have f7 := hf 7 (by omega)
                    have e8 := he 8 (by omega); have f8 := hf 8 (by omega)
                    have e9 := he 9 (by omega); have f9 := hf 9 (by omega)
                    have e10 := he 10 (by omega); have f10 := hf 10 (by omega)
                    simp only [V11, List.getElem?_cons_zero, List.getElem?_cons_succ, Nat.add_zero] at e0 f0 e1 f1 e2 f2 e3 f3 e4 f4 e5 f5 e6 f6 e7 f7 e8 f8 e9 f9 e10 f10
                    have hj : (dn.len : Int) < (n : Int) := by omega
                    have hOK : ERSOK ks := by
                      have hal := HALL.out
                      rw [hk] at hal
                      exact (Eo.All.split dn hal).1
                    have hsq : esameM (.cons k2 i2 c2 t2 b2 cs2 ks r2) (.cons k3 i3 c3 t3 b3 cs3 ks3 r3) = (esame1 k2 i2 c2 t2 b2 cs2 ks k3 i3 c3 t3 b3 cs3 ks3 && esameM r2 r3) := rfl
                    rw [hsq] at hq
                    have HC := Lib.hid (fun (wx : World) (hx : Below wr.heap.size wr wx) => hOK ks3 k2 i2 c2 k3 i3 c3 t2 t3 b2 b3 cs2 cs3 bl2 bn2 bc2 cl2 cn2 cc2 a2 n2 cp2 bl3 bn3 bc3 cl3 cn3 cc3 a3 n3 cp3 S wx (hkF.same (w' := wx) (fun x _ hlt => hx.block x hlt) (fun x hx2 _ => hx2)) (hgF.same (w' := wx) (fun x _ hlt => hx.block x hlt) (fun x hx2 _ => hx2)) (fun x hx2 => Nat.lt_of_lt_of_le (HS.out x hx2) (Nat.le_trans HBw2.out.size hx.size)))
                    unfold vE at HC
                    have HKEEP := Lib.hid (show ∀ wx, Below wr.heap.size wr wx → ((wx.cell? ⟨p, 10, none⟩ = some (.slice (some ⟨bb, off, none⟩) n cap) ∧ wx.cell? ⟨q, 10, none⟩ = some (.slice (some ⟨bb', off', none⟩) n cap')) ∧ (wx.cell? ⟨bb, off + dn.len * 11, none⟩ = some (.int .i64 k2) ∧ wx.cell? ⟨bb, off + dn.len * 11 + 1, none⟩ = some (.int .i64 i2) ∧ wx.cell? ⟨bb, off + dn.len * 11 + 2, none⟩ = some (.int .i64 c2) ∧ wx.cell? ⟨bb, off + dn.len * 11 + 3, none⟩ = some (.string ⟨t2.toArray⟩) ∧ wx.cell? ⟨bb, off + dn.len * 11 + 4, none⟩ = some (.int .i64 b2.k) ∧ wx.cell? ⟨bb, off + dn.len * 11 + 5, none⟩ = some (.int .i64 b2.i) ∧ wx.cell? ⟨bb, off + dn.len * 11 + 6, none⟩ = some (.int .u64 b2.b) ∧ wx.cell? ⟨bb, off + dn.len * 11 + 7, none⟩ = some (.string ⟨b2.t.toArray⟩) ∧ wx.cell? ⟨bb, off + dn.len * 11 + 8, none⟩ = some (.slice bl2 bn2 bc2) ∧ wx.cell? ⟨bb, off + dn.len * 11 + 9, none⟩ = some (.slice cl2 cn2 cc2) ∧ wx.cell? ⟨bb, off + dn.len * 11 + 10, none⟩ = some (.slice a2 n2 cp2)) ∧ (wx.cell? ⟨bb', off' + dn.len * 11, none⟩ = some (.int .i64 k3) ∧ wx.cell? ⟨bb', off' + dn.len * 11 + 1, none⟩ = some (.int .i64 i3) ∧ wx.cell? ⟨bb', off' + dn.len * 11 + 2, none⟩ = some (.int .i64 c3) ∧ wx.cell? ⟨bb', off' + dn.len * 11 + 3, none⟩ = some (.string ⟨t3.toArray⟩) ∧ wx.cell? ⟨bb', off' + dn.len * 11 + 4, none⟩ = some (.int .i64 b3.k) ∧ wx.cell? ⟨bb', off' + dn.len * 11 + 5, none⟩ = some (.int .i64 b3.i) ∧ wx.cell? ⟨bb', off' + dn.len * 11 + 6, none⟩ = some (.int .u64 b3.b) ∧ wx.cell? ⟨bb', off' + dn.len * 11 + 7, none⟩ = some (.string ⟨b3.t.toArray⟩) ∧ wx.cell? ⟨bb', off' + dn.len * 11 + 8, none⟩ = some (.slice bl3 bn3 bc3) ∧ wx.cell? ⟨bb', off' + dn.len * 11 + 9, none⟩ = some (.slice cl3 cn3 cc3) ∧ wx.cell? ⟨bb', off' + dn.len * 11 + 10, none⟩ = some (.slice a3 n3 cp3))) from
                      fun wx hx => ⟨⟨cellAt hx c10, cellAt hx c10'⟩, ⟨cellAt hx e0, cellAt hx e1, cellAt hx e2, cellAt hx e3, cellAt hx e4, cellAt hx e5, cellAt hx e6, cellAt hx e7, cellAt hx e8, cellAt hx e9, cellAt hx e10⟩, ⟨cellAt hx f0, cellAt hx f1, cellAt hx f2, cellAt hx f3, cellAt hx f4, cellAt hx f5, cellAt hx f6, cellAt hx f7, cellAt hx f8, cellAt hx f9, cellAt hx f10⟩⟩)
                    generalize esame1 k2 i2 c2 t2 b2 cs2 ks k3 i3 c3 t3 b3 cs3 ks3 = fk at *
                    have HKK := Lib.hid (And.intro hk hk')
                    have HJ := Lib.hid hjn
                    have HQ := Lib.hid hq
                    have HDL := Lib.hid hdl
                    clear hkF hgF hOK hk hk' hsq hq hlen hlen' hF hG hlr hdl hjn' hnb' he hf e0 f0 e1 f1 e2 f2 e3 f3 e4 f4 e5 f5 e6 f6 e7 f7 e8 f8 e9 f9 e10 f10
                    generalize hjj : dn.len = j2 at *
                    have HJJ := Lib.hid hjj
                    clear hjj
                    cases fk
                    · go_upto_region 12 with fail
                      go_region_held3 (fun wx : World => (wx.cell? ⟨p, 10, none⟩ = some (.slice (some ⟨bb, off, none⟩) n cap) ∧ wx.cell? ⟨q, 10, none⟩ = some (.slice (some ⟨bb', off', none⟩) n cap')) ∧ (wx.cell? ⟨bb, off + j2 * 11, none⟩ = some (.int .i64 k2) ∧ wx.cell? ⟨bb, off + j2 * 11 + 1, none⟩ = some (.int .i64 i2) ∧ wx.cell? ⟨bb, off + j2 * 11 + 2, none⟩ = some (.int .i64 c2) ∧ wx.cell? ⟨bb, off + j2 * 11 + 3, none⟩ = some (.string ⟨t2.toArray⟩) ∧ wx.cell? ⟨bb, off + j2 * 11 + 4, none⟩ = some (.int .i64 b2.k) ∧ wx.cell? ⟨bb, off + j2 * 11 + 5, none⟩ = some (.int .i64 b2.i) ∧ wx.cell? ⟨bb, off + j2 * 11 + 6, none⟩ = some (.int .u64 b2.b) ∧ wx.cell? ⟨bb, off + j2 * 11 + 7, none⟩ = some (.string ⟨b2.t.toArray⟩) ∧ wx.cell? ⟨bb, off + j2 * 11 + 8, none⟩ = some (.slice bl2 bn2 bc2) ∧ wx.cell? ⟨bb, off + j2 * 11 + 9, none⟩ = some (.slice cl2 cn2 cc2) ∧ wx.cell? ⟨bb, off + j2 * 11 + 10, none⟩ = some (.slice a2 n2 cp2)) ∧ (wx.cell? ⟨bb', off' + j2 * 11, none⟩ = some (.int .i64 k3) ∧ wx.cell? ⟨bb', off' + j2 * 11 + 1, none⟩ = some (.int .i64 i3) ∧ wx.cell? ⟨bb', off' + j2 * 11 + 2, none⟩ = some (.int .i64 c3) ∧ wx.cell? ⟨bb', off' + j2 * 11 + 3, none⟩ = some (.string ⟨t3.toArray⟩) ∧ wx.cell? ⟨bb', off' + j2 * 11 + 4, none⟩ = some (.int .i64 b3.k) ∧ wx.cell? ⟨bb', off' + j2 * 11 + 5, none⟩ = some (.int .i64 b3.i) ∧ wx.cell? ⟨bb', off' + j2 * 11 + 6, none⟩ = some (.int .u64 b3.b) ∧ wx.cell? ⟨bb', off' + j2 * 11 + 7, none⟩ = some (.string ⟨b3.t.toArray⟩) ∧ wx.cell? ⟨bb', off' + j2 * 11 + 8, none⟩ = some (.slice bl3 bn3 bc3) ∧ wx.cell? ⟨bb', off' + j2 * 11 + 9, none⟩ = some (.slice cl3 cn3 cc3) ∧ wx.cell? ⟨bb', off' + j2 * 11 + 10, none⟩ = some (.slice a3 n3 cp3)))
                        (first | exact HKEEP.out _ (Below.refl _ _) | exact HKEEP.out _ (Below.refl _ _).drew | exact HKEEP.out _ HBA2.out)
                        (first
                          | (go_simp; go_at_call 15; (with_reducible refine (HC.out _ (Below.refl _ _).drew).mono ?_); rintro eA wA2 ⟨rfl, hbA⟩; have HBA2 := Lib.hid ((Below.refl wr.heap.size wr).drew.trans hbA); clear hbA))
                      all_goals
                        go_wp2_with fail
                        go_ret
                        exact ⟨by rw [HR3.out, HQ.out]; rfl, HBw2.out.trans (HBA2.out.mono HBw2.out.size)⟩
                    · go_upto_region 12 with fail
                      go_region_held3 (fun wx : World => (wx.cell? ⟨p, 10, none⟩ = some (.slice (some ⟨bb, off, none⟩) n cap) ∧ wx.cell? ⟨q, 10, none⟩ = some (.slice (some ⟨bb', off', none⟩) n cap')) ∧ (wx.cell? ⟨bb, off + j2 * 11, none⟩ = some (.int .i64 k2) ∧ wx.cell? ⟨bb, off + j2 * 11 + 1, none⟩ = some (.int .i64 i2) ∧ wx.cell? ⟨bb, off + j2 * 11 + 2, none⟩ = some (.int .i64 c2) ∧ wx.cell? ⟨bb, off + j2 * 11 + 3, none⟩ = some (.string ⟨t2.toArray⟩) ∧ wx.cell? ⟨bb, off + j2 * 11 + 4, none⟩ = some (.int .i64 b2.k) ∧ wx.cell? ⟨bb, off + j2 * 11 + 5, none⟩ = some (.int .i64 b2.i) ∧ wx.cell? ⟨bb, off + j2 * 11 + 6, none⟩ = some (.int .u64 b2.b) ∧ wx.cell? ⟨bb, off + j2 * 11 + 7, none⟩ = some (.string ⟨b2.t.toArray⟩) ∧ wx.cell? ⟨bb, off + j2 * 11 + 8, none⟩ = some (.slice bl2 bn2 bc2) ∧ wx.cell? ⟨bb, off + j2 * 11 + 9, none⟩ = some (.slice cl2 cn2 cc2) ∧ wx.cell? ⟨bb, off + j2 * 11 + 10, none⟩ = some (.slice a2 n2 cp2)) ∧ (wx.cell? ⟨bb', off' + j2 * 11, none⟩ = some (.int .i64 k3) ∧ wx.cell? ⟨bb', off' + j2 * 11 + 1, none⟩ = some (.int .i64 i3) ∧ wx.cell? ⟨bb', off' + j2 * 11 + 2, none⟩ = some (.int .i64 c3) ∧ wx.cell? ⟨bb', off' + j2 * 11 + 3, none⟩ = some (.string ⟨t3.toArray⟩) ∧ wx.cell? ⟨bb', off' + j2 * 11 + 4, none⟩ = some (.int .i64 b3.k) ∧ wx.cell? ⟨bb', off' + j2 * 11 + 5, none⟩ = some (.int .i64 b3.i) ∧ wx.cell? ⟨bb', off' + j2 * 11 + 6, none⟩ = some (.int .u64 b3.b) ∧ wx.cell? ⟨bb', off' + j2 * 11 + 7, none⟩ = some (.string ⟨b3.t.toArray⟩) ∧ wx.cell? ⟨bb', off' + j2 * 11 + 8, none⟩ = some (.slice bl3 bn3 bc3) ∧ wx.cell? ⟨bb', off' + j2 * 11 + 9, none⟩ = some (.slice cl3 cn3 cc3) ∧ wx.cell? ⟨bb', off' + j2 * 11 + 10, none⟩ = some (.slice a3 n3 cp3)))
                        (first | exact HKEEP.out _ (Below.refl _ _) | exact HKEEP.out _ (Below.refl _ _).drew | exact HKEEP.out _ HBA2.out)
                        (first
                          | (go_simp; go_at_call 15; (with_reducible refine (HC.out _ (Below.refl _ _).drew).mono ?_); rintro eA wA2 ⟨rfl, hbA⟩; have HBA2 := Lib.hid ((Below.refl wr.heap.size wr).drew.trans hbA); clear hbA))
                      all_goals
                        go_wp2_with fail
                        go_roundw
                        case rel =>
                          refine ⟨⟨dn.app (.cons k2 i2 c2 t2 b2 cs2 ks .nil), dn'.app (.cons k3 i3 c3 t3 b3 cs3 ks3 .nil), r2, r3, ?_, ?_, ?_, ?_, HBw2.out.trans (HBA2.out.mono HBw2.out.size), by rw [HQ.out]; simp⟩, HB2.out.trans (HBA2.out.mono HB2.out.size)⟩
                          · rw [Eo.len_app, HJJ.out, show (Eo.cons k2 i2 c2 t2 b2 cs2 ks .nil).len = 1 from rfl]; go_num
                          · rw [Eo.len_app, Eo.len_app, HDL.out, HJJ.out]; rfl
                          · rw [Eo.app_assoc]; exact HKK.out.1
                          · rw [Eo.app_assoc]; exact HKK.out.2
                        case measure => simp [intOf]; have := HJ.out; omega
theorem ersameAll : ∀ f : Eo, f.All ERSOK
  | .nil => trivial
  | .cons _ _ _ _ _ _ kids rest => ⟨ersameN (ersameAll kids), ersameAll rest⟩
theorem ersameG (kids : Eo) : ERSOK kids := ersameN (ersameAll kids)
end Go.Proofs.YtbldidiibkcelaaGreatDoor

