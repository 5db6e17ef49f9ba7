/-
  The document's reader: nibble, hex (walks). Not a statement of the seat.
-/
import Derived.Test.YtofpdhkdnbnobaaDoorRRead
namespace Go.Proofs.YtofpdhkdnbnobaaDoor
open Go.RowKit

theorem nib_fin : ∀ n : Fin 256, Go.Lib.indexByte hexD (UInt8.ofNat n.val) = if 48 ≤ n.val ∧ n.val ≤ 57 then (n.val : Int) - 48 else if 97 ≤ n.val ∧ n.val ≤ 102 then (n.val : Int) - 97 + 10 else -1 := by decide +kernel
theorem nib_eq (c : UInt8) : Go.Lib.indexByte hexD c = if 48 ≤ c.toNat ∧ c.toNat ≤ 57 then (c.toNat : Int) - 48 else if 97 ≤ c.toNat ∧ c.toNat ≤ 102 then (c.toNat : Int) - 97 + 10 else -1 := by
  have h := nib_fin ⟨c.toNat, c.toNat_lt⟩
  simp only [UInt8.ofNat_toNat] at h
  exact h
set_option maxRecDepth 100000 in
theorem nibbleN (c : UInt8) (w : World) : Calls Tryd.prog 109 #[.int .u8 (c.toNat : Nat)] w (fun e w' => e = .returned (.int .i64 (Go.Lib.indexByte hexD c)) ∧ w' = w) := by
  rw [nib_eq c]
  have hc := c.toNat_lt
  generalize c.toNat = n at *
  have hi : (0 : Int) ≤ (n : Int) := by omega
  have hi2 : (n : Int) < 256 := by omega
  go_enter Tryd.func109, Tryd.ntmps109
  by_cases h1 : 48 ≤ n ∧ n ≤ 57
  · have a1 : (48 : Int) ≤ (n : Int) := by omega
    have a2 : (n : Int) ≤ 57 := by omega
    rw [if_pos h1]
    clear h1
    go_wp2_with fail
    go_ret
    refine ⟨?_, rfl⟩
    go_num
  · rw [if_neg h1]
    by_cases h2 : 97 ≤ n ∧ n ≤ 102
    · have a1 : (48 : Int) ≤ (n : Int) := by omega
      have a2 : ¬ (n : Int) ≤ 57 := by omega
      have a3 : (97 : Int) ≤ (n : Int) := by omega
      have a4 : (n : Int) ≤ 102 := by omega
      rw [if_pos h2]
      clear h1 h2
      go_wp2_with fail
      go_ret
      refine ⟨?_, rfl⟩
      go_num
    · rw [if_neg h2]
      by_cases a1 : (48 : Int) ≤ (n : Int)
      · have a2 : ¬ (n : Int) ≤ 57 := by omega
        by_cases a3 : (97 : Int) ≤ (n : Int)
        · have a4 : ¬ (n : Int) ≤ 102 := by omega
          clear h1 h2
          go_wp2_with fail
          go_ret
          exact ⟨rfl, rfl⟩
        · clear h1 h2
          go_wp2_with fail
          go_ret
          exact ⟨rfl, rfl⟩
      · have a3 : ¬ (97 : Int) ≤ (n : Int) := by omega
        clear h1 h2
        go_wp2_with fail
        go_ret
        exact ⟨rfl, rfl⟩

/-- two hex digits at a place -/
def rhexAt (L : Bs) (a : Nat) : Option UInt8 := if a + 2 ≤ L.length then (if Go.Lib.indexByte hexD (nx L a) < 0 ∨ Go.Lib.indexByte hexD (nx L (a + 1)) < 0 then none else some (byteOf (nx L a) (nx L (a + 1)))) else none
def hexV : Option UInt8 → Value
  | some b => .tuple #[.int .u8 (b.toNat : Nat), .bool true]
  | none => .tuple #[.int .u8 0, .bool false]
def HXP (rb : Nat) (S : ByteArray) (a deep n : Nat) (bad : Bool) (w : World) (o : Option UInt8) (e : Ending) (w' : World) : Prop :=
  e = .returned (hexV o) ∧ Rr w' rb S (if o.isSome = true then a + 2 else a) deep n bad ∧ Kept (N1 rb) w w'
theorem idx_lt (c : UInt8) : Go.Lib.indexByte hexD c < 16 ∧ -1 ≤ Go.Lib.indexByte hexD c := by
  rw [nib_eq]
  have := c.toNat_lt
  constructor <;> (split <;> (try split) <;> omega)
set_option maxRecDepth 100000 in
set_option maxHeartbeats 4000000 in
theorem rhexN {rb a deep n : Nat} {S : ByteArray} {bad : Bool} {w : World} (h : Rr w rb S a deep n bad) (ha : a ≤ 4000000000000) :
    Calls Tryd.prog 90 #[.pointer (some ⟨rb, 0, none⟩)] w (HXP rb S a deep n bad w (rhexAt S.data.toList a)) := by
  have c0 := h.cell 0 rfl
  have c1 := h.cell 1 rfl
  have f1 := h.free 1 (by simp)
  have hsz := Lib.size_eq S
  have HR := Lib.hid h
  clear h
  obtain ⟨a2, ha2⟩ : ∃ a2 : Nat, a2 = a + 2 := ⟨_, rfl⟩
  have hw2 : IntKind.i64.wrap ((a : Int) + 2) = (a2 : Int) := by rw [wrapI (by omega) (by omega)]; omega
  obtain ⟨a1, ha1⟩ : ∃ a1 : Nat, a1 = a + 1 := ⟨_, rfl⟩
  have hw1 : IntKind.i64.wrap ((a : Int) + 1) = (a1 : Int) := by rw [wrapI (by omega) (by omega)]; omega
  have hw22 : wrap64 ((a : Int) + 2) = (a2 : Int) := by unfold wrap64; omega
  unfold rhexAt HXP
  rw [← hsz, ← ha1]
  go_enter Tryd.func90, Tryd.ntmps90
  by_cases hlt : a2 ≤ S.size
  · have hlti : ¬ (S.size : Int) < (a2 : Int) := by omega
    have hlta : a < S.size := by omega
    have hltb : a1 < S.size := by omega
    have hltai : (a : Int) < (S.size : Int) := by omega
    have hltbi : (a1 : Int) < (S.size : Int) := by omega
    have hx : nx S.data.toList a = S[a] := by
      unfold nx
      have : S.data.toList[a]? = some S[a] := by
        rw [List.getElem?_eq_getElem (by rw [← hsz]; exact hlta)]
        simp [ByteArray.getElem_eq_getElem_data]
      simp [List.getD, this]
    have hy : nx S.data.toList a1 = S[a1] := by
      unfold nx
      have : S.data.toList[a1]? = some S[a1] := by
        rw [List.getElem?_eq_getElem (by rw [← hsz]; exact hltb)]
        simp [ByteArray.getElem_eq_getElem_data]
      simp [List.getD, this]
    have HLT := Lib.hid hlt
    have hn1 := fun w' => nibbleN S[a] w'
    have hn2 := fun w' => nibbleN S[a1] w'
    have hi1 := idx_lt S[a]
    have hi2 := idx_lt S[a1]
    rw [if_pos (show a + 2 ≤ S.size by omega), hx, hy]
    generalize ho : (if Go.Lib.indexByte hexD S[a] < 0 ∨ Go.Lib.indexByte hexD S[a1] < 0 then none else some (byteOf S[a] S[a1])) = o
    unfold byteOf at ho
    have HO := Lib.hid ho
    rw [← ha2]
    clear hx hy ho hsz hlt ha ha1 ha2
    go_wp2_with fail
    go_quiet (fail)
    have hRa : Rr (w.drewN nq) rb S a deep n bad := Blk.below HR.out (below_drewN w.heap.size w _)
    have hKa : Kept (N1 rb) w (w.drewN nq) := (Kept.refl _ _).calm (below_drewN _ _ _)
    generalize w.drewN nq = wa at *
    clear c0 c1 f1
    have c0 := hRa.cell 0 rfl
    have c1 := hRa.cell 1 rfl
    have f1 := hRa.free 1 (by simp)
    have HRA := Lib.hid (And.intro hRa hKa)
    clear hRa hKa
    go_wp2_with fail
    go_quiet (first | (with_reducible exact Calls.quiet_of_same (hn1 _)) | (with_reducible exact Calls.quiet_of_same (hn2 _)))
    have hRb : Rr (wa.drewN nq) rb S a deep n bad := Blk.below HRA.out.1 (below_drewN wa.heap.size wa _)
    have hKb : Kept (N1 rb) w (wa.drewN nq) := HRA.out.2.calm (below_drewN _ _ _)
    generalize wa.drewN nq = wb at *
    clear c0 c1 f1 hn1 hn2
    have c1 := hRb.cell 1 rfl
    have f1 := hRb.free 1 (by simp)
    have HRB := Lib.hid (And.intro hRb hKb)
    have hset : Rr (wb.setCell ⟨rb, 1, none⟩ (.int .i64 (a2 : Nat))) rb S a2 deep n bad := by simpa [Rr] using Blk.set hRb (j := 1) (.int .i64 (a2 : Nat))
    have HSET := Lib.hid (And.intro hset (hKb.put (p := ⟨rb, 1, none⟩) (.int .i64 (a2 : Nat)) (fun _ => rfl)))
    clear hRb hKb hset
    generalize Go.Lib.indexByte hexD S[a] = x at *
    generalize Go.Lib.indexByte hexD S[a1] = y at *
    have ho := HO.out
    clear HO
    by_cases hx : x < 0
    · rw [if_pos (.inl hx)] at ho
      subst ho
      go_wp2_with fail
      go_ret2
      exact ⟨rfl, HRB.out.1, HRB.out.2⟩
    · by_cases hy : y < 0
      · rw [if_pos (.inr hy)] at ho
        subst ho
        go_wp2_with fail
        go_ret2
        exact ⟨rfl, HRB.out.1, HRB.out.2⟩
      · rw [if_neg (by omega)] at ho
        subst ho
        obtain ⟨p, rfl⟩ : ∃ p : Nat, x = (p : Int) := ⟨x.toNat, by omega⟩
        obtain ⟨q, rfl⟩ : ∃ q : Nat, y = (q : Int) := ⟨y.toNat, by omega⟩
        go_wp2_with fail
        go_ret2
        refine ⟨?_, HSET.out.1, HSET.out.2⟩
        simp only [hexV]
        go_num
  · have hlti : (S.size : Int) < (a2 : Int) := by omega
    rw [if_neg (show ¬ a + 2 ≤ S.size by omega)]
    clear hlt hsz
    go_wp2_with fail
    go_quiet (fail)
    go_wp2_with fail
    go_ret2
    exact ⟨rfl, Blk.below HR.out (below_drewN w.heap.size w _), (Kept.refl _ _).calm (below_drewN _ _ _)⟩
end Go.Proofs.YtofpdhkdnbnobaaDoor
