/-
  The document's reader of quoted texts and of hex digits against the code's (plain laws). Not a statement of the seat.
-/
import Derived.Test.YtofpdhkdnbnobaaDoorRHex
namespace Go.Proofs.YtofpdhkdnbnobaaDoor
open Go.RowKit

theorem hasM_nil (L : Bs) (a : Nat) : hasM L a [] = true := by unfold hasM; rfl
theorem nx_end {L : Bs} {a : Nat} (h : L.length ≤ a) : nx L a = 0 := by
  unfold nx
  simp [List.getD, List.getElem?_eq_none h]
theorem nx_at {L : Bs} {a : Nat} (h : a < L.length) : nx L a = L[a] := by
  unfold nx
  simp [List.getD, h]
theorem hasM_cons {L : Bs} {a : Nat} {b : UInt8} {t : Bs} (hb : b ≠ 0) : hasM L a (b :: t) = (decide (nx L a = b) && hasM L (a + 1) t) := by
  by_cases hl : a < L.length
  · unfold hasM
    rw [nx_at hl, drop_at hl, Bool.eq_iff_iff]
    simp only [List.isPrefixOf, Bool.and_eq_true, beq_iff_eq, decide_eq_true_eq]
    exact ⟨fun h => ⟨h.1.symm, h.2⟩, fun h => ⟨h.1.symm, h.2⟩⟩
  · rw [nx_end (by omega)]
    unfold hasM
    rw [List.drop_eq_nil_of_le (by omega)]
    have : ¬ (0 : UInt8) = b := fun e => hb e.symm
    simp [this]
theorem hasM_one {L : Bs} {a : Nat} {b : UInt8} (hb : b ≠ 0) : hasM L a [b] = decide (nx L a = b) := by
  rw [hasM_cons hb, hasM_nil, Bool.and_true]
theorem drop2 {L : Bs} {i : Nat} (h : i + 2 ≤ L.length) : L.drop i = nx L i :: nx L (i + 1) :: L.drop (i + 2) := by
  rw [drop_at (by omega : i < L.length), drop_at (by omega : i + 1 < L.length), nx_at (by omega : i < L.length), nx_at (by omega : i + 1 < L.length)]
theorem unpair2 {α : Type} {L : Bs} {i : Nat} (P : UInt8 → α) (Q : α) :
    (match unpairM ((L.drop i).take 2) with | some [b] => P b | _ => Q) = (match rhexAt L i with | some b => P b | none => Q) := by
  unfold rhexAt
  by_cases h : i + 2 ≤ L.length
  · rw [if_pos h, drop2 h]
    simp only [List.take_succ_cons, List.take_zero, unpairM]
    by_cases h2 : Go.Lib.indexByte hexD (nx L i) < 0 ∨ Go.Lib.indexByte hexD (nx L (i + 1)) < 0
    · rw [if_pos h2, if_pos h2]
    · rw [if_neg h2, if_neg h2]
      rfl
  · rw [if_neg h]
    by_cases h1 : i < L.length
    · rw [drop_at h1, List.drop_eq_nil_of_le (by omega : L.length ≤ i + 1)]
      rfl
    · rw [List.drop_eq_nil_of_le (by omega : L.length ≤ i)]
      rfl
/-- one part of a quoted text, as the document's reader takes it -/
theorem quoted_step (L : Bs) (f a : Nat) (o : Bs) : quotedM L (f + 1) a o =
    if nx L a = 34 then .ok o (a + 1)
    else if nx L a = 92 ∧ nx L (a + 1) = 120 then
      (match rhexAt L (a + 2) with | some c => if 32 ≤ c ∧ c ≤ 126 then .bad else quotedM L f (a + 4) (o ++ [c]) | none => .bad)
    else if nx L a = 92 then (if nx L (a + 1) = 34 ∨ nx L (a + 1) = 92 then quotedM L f (a + 2) (o ++ [nx L (a + 1)]) else .bad)
    else if nx L a < 32 ∨ 126 < nx L a then .bad else quotedM L f (a + 1) (o ++ [nx L a]) := by
  rw [quotedM]
  by_cases hl : a < L.length
  · rw [List.getElem?_eq_getElem hl, ← nx_at hl]
    simp only [hasM_one (show (34 : UInt8) ≠ 0 by decide), hasM_one (show (92 : UInt8) ≠ 0 by decide), hasM_one (show (120 : UInt8) ≠ 0 by decide), decide_eq_true_eq]
    by_cases c1 : nx L a = 34
    · rw [if_pos c1, if_pos c1]
    · rw [if_neg c1, if_neg c1]
      by_cases c2 : nx L a = 92
      · rw [if_neg (show ¬ (nx L a < 32 ∨ 126 < nx L a) by rw [c2]; decide), if_neg (show ¬ nx L a ≠ 92 from fun h => h c2)]
        by_cases c3 : nx L (a + 1) = 120
        · rw [if_neg (show ¬ nx L (a + 1) = 34 by rw [c3]; decide), if_neg (show ¬ nx L (a + 1) = 92 by rw [c3]; decide), if_pos c3, if_pos ⟨c2, c3⟩]
          exact unpair2 (L := L) (i := a + 2) (fun c => if 32 ≤ c ∧ c ≤ 126 then Res.bad else quotedM L f (a + 4) (o ++ [c])) Res.bad
        · rw [if_neg (show ¬ (nx L a = 92 ∧ nx L (a + 1) = 120) from fun h => c3 h.2), if_pos c2, if_neg c3]
          by_cases c4 : nx L (a + 1) = 34
          · rw [if_pos c4, if_pos (.inl c4), c4]
          · rw [if_neg c4]
            by_cases c5 : nx L (a + 1) = 92
            · rw [if_pos c5, if_pos (.inr c5), c5]
            · rw [if_neg c5, if_neg (show ¬ (nx L (a + 1) = 34 ∨ nx L (a + 1) = 92) from fun h => h.elim c4 c5)]
      · rw [if_neg (show ¬ (nx L a = 92 ∧ nx L (a + 1) = 120) from fun h => c2 h.1), if_neg c2, if_pos (show nx L a ≠ 92 from c2)]
  · rw [List.getElem?_eq_none (by omega), nx_end (by omega : L.length ≤ a)]
    rw [if_neg (show ¬ (0 : UInt8) = 34 by decide), if_neg (show ¬ ((0 : UInt8) = 92 ∧ nx L (a + 1) = 120) from fun h => absurd h.1 (by decide)), if_neg (show ¬ (0 : UInt8) = 92 by decide), if_pos (show (0 : UInt8) < 32 ∨ 126 < (0 : UInt8) from .inl (by decide))]

/-! ### hex digits -/
theorem hexrun_lt {L : Bs} {i : Nat} (h : 0 < whileM L i hexD) : i < L.length ∧ 0 ≤ Go.Lib.indexByte hexD (nx L i) ∧ whileM L i hexD = whileM L (i + 1) hexD + 1 := by
  have hi : i < L.length := by
    rcases Nat.lt_or_ge i L.length with h1 | h1
    · exact h1
    · rw [whileM_end h1] at h; omega
  rw [nx_at hi]
  rw [whileM_step hi] at h ⊢
  split at h
  · rename_i h2; rw [if_pos h2]; exact ⟨hi, h2, rfl⟩
  · omega
theorem hexrun_zero {L : Bs} {i : Nat} (h : whileM L i hexD = 0) : L.length ≤ i ∨ Go.Lib.indexByte hexD (nx L i) < 0 := by
  rcases Nat.lt_or_ge i L.length with h1 | h1
  · right
    rw [nx_at h1]
    rw [whileM_step h1] at h
    split at h
    · omega
    · omega
  · exact .inl h1
/-- two digits more -/
theorem hex_two {L : Bs} {i W : Nat} (h : whileM L i hexD = W + 2) : ∃ b, rhexAt L i = some b ∧ whileM L (i + 2) hexD = W ∧ i + 2 ≤ L.length ∧ unpairM ((L.drop i).take (W + 2)) = (unpairM ((L.drop (i + 2)).take W)).map (b :: ·)
    ∧ b = byteOf (nx L i) (nx L (i + 1)) ∧ 0 ≤ Go.Lib.indexByte hexD (nx L i) ∧ 0 ≤ Go.Lib.indexByte hexD (nx L (i + 1)) := by
  obtain ⟨h1, h2, h3⟩ := hexrun_lt (L := L) (i := i) (by omega)
  obtain ⟨h4, h5, h6⟩ := hexrun_lt (L := L) (i := i + 1) (by omega)
  have hl : i + 2 ≤ L.length := by omega
  have hn : ¬ (Go.Lib.indexByte hexD (nx L i) < 0 ∨ Go.Lib.indexByte hexD (nx L (i + 1)) < 0) := by omega
  refine ⟨byteOf (nx L i) (nx L (i + 1)), ?_, ?_, hl, ?_, rfl, h2, h5⟩
  · unfold rhexAt
    rw [if_pos hl, if_neg hn]
  · show whileM L (i + 1 + 1) hexD = W
    omega
  · rw [drop2 hl]
    simp only [List.take_succ_cons, unpairM]
    rw [if_neg hn]
/-- fewer -/
theorem hex_few {L : Bs} {i : Nat} (h : whileM L i hexD < 2) : rhexAt L i = none := by
  unfold rhexAt
  by_cases hl : i + 2 ≤ L.length
  · rw [if_pos hl, if_pos]
    rcases Nat.eq_zero_or_pos (whileM L i hexD) with h1 | h1
    · rcases hexrun_zero h1 with h2 | h2
      · omega
      · exact .inl h2
    · obtain ⟨_, _, h3⟩ := hexrun_lt h1
      rcases hexrun_zero (show whileM L (i + 1) hexD = 0 by omega) with h2 | h2
      · omega
      · exact .inr h2
  · rw [if_neg hl]

/-! ### the small parts' contracts, one way each -/
section
variable {rb a D N : Nat} {S t : ByteArray} {bad : Bool} {w : World}
theorem wordF (h : Rr w rb S a D N bad) (ha : a ≤ 4000000000000) (hS : S.size ≤ 1000000000000) (ht : 0 < t.size) (ht9 : t.size ≤ 1000) (hm : hasM S.data.toList a t.data.toList = false) :
    Calls Tryd.prog 88 #[.pointer (some ⟨rb, 0, none⟩), .string t] w (fun e w' => e = .returned (.bool false) ∧ Rr w' rb S a D N bad ∧ Kept (N1 rb) w w') := by
  have h1 := wordN h ha hS ht ht9
  unfold WDP at h1
  rw [hm] at h1
  exact h1
theorem wordT (h : Rr w rb S a D N bad) (ha : a ≤ 4000000000000) (hS : S.size ≤ 1000000000000) (ht : 0 < t.size) (ht9 : t.size ≤ 1000) (hm : hasM S.data.toList a t.data.toList = true) :
    Calls Tryd.prog 88 #[.pointer (some ⟨rb, 0, none⟩), .string t] w (fun e w' => e = .returned (.bool true) ∧ Rr w' rb S (a + t.size) D N bad ∧ Kept (N1 rb) w w') := by
  have h1 := wordN h ha hS ht ht9
  unfold WDP at h1
  rw [hm] at h1
  exact h1
theorem nextK (h : Rr w rb S a D N bad) :
    Calls Tryd.prog 87 #[.pointer (some ⟨rb, 0, none⟩)] w (fun e w' => e = .returned (.int .u8 ((nx S.data.toList a).toNat : Nat)) ∧ Rr w' rb S a D N bad ∧ Kept (N1 rb) w w') :=
  (nextN h).mono fun _ _ ⟨h1, h2⟩ => ⟨h1, Blk.below h h2, (Kept.refl _ _).calm h2⟩
theorem rhexS {c : UInt8} (h : Rr w rb S a D N bad) (ha : a ≤ 4000000000000) (ho : rhexAt S.data.toList a = some c) :
    Calls Tryd.prog 90 #[.pointer (some ⟨rb, 0, none⟩)] w (fun e w' => e = .returned (.tuple #[.int .u8 (c.toNat : Nat), .bool true]) ∧ Rr w' rb S (a + 2) D N bad ∧ Kept (N1 rb) w w') := by
  have h1 := rhexN h ha
  unfold HXP at h1
  rw [ho] at h1
  exact h1
theorem rhex0 (h : Rr w rb S a D N bad) (ha : a ≤ 4000000000000) (ho : rhexAt S.data.toList a = none) :
    Calls Tryd.prog 90 #[.pointer (some ⟨rb, 0, none⟩)] w (fun e w' => e = .returned (.tuple #[.int .u8 0, .bool false]) ∧ Rr w' rb S a D N bad ∧ Kept (N1 rb) w w') := by
  have h1 := rhexN h ha
  unfold HXP at h1
  rw [ho] at h1
  exact h1
theorem rr_bad (h : Rr w rb S a D N bad) : Rr (w.setCell ⟨rb, 4, none⟩ (.bool true)) rb S a D N true ∧ Kept (N1 rb) w (w.setCell ⟨rb, 4, none⟩ (.bool true)) :=
  ⟨by simpa [Rr] using Blk.set h (j := 4) (.bool true), (Kept.refl (N1 rb) w).put (p := ⟨rb, 4, none⟩) _ (fun _ => rfl)⟩
theorem rr_badF (h : Rr w rb S a D N false) : Rr (w.setCell ⟨rb, 4, none⟩ (.bool false)) rb S a D N false ∧ Kept (N1 rb) w (w.setCell ⟨rb, 4, none⟩ (.bool false)) :=
  ⟨by simpa [Rr] using Blk.set h (j := 4) (.bool false), (Kept.refl (N1 rb) w).put (p := ⟨rb, 4, none⟩) _ (fun _ => rfl)⟩
theorem rr_go {a' : Nat} (h : Rr w rb S a D N bad) : Rr (w.setCell ⟨rb, 1, none⟩ (.int .i64 (a' : Nat))) rb S a' D N bad ∧ Kept (N1 rb) w (w.setCell ⟨rb, 1, none⟩ (.int .i64 (a' : Nat))) :=
  ⟨by simpa [Rr] using Blk.set h (j := 1) (.int .i64 (a' : Nat)), (Kept.refl (N1 rb) w).put (p := ⟨rb, 1, none⟩) _ (fun _ => rfl)⟩
theorem rr_grown {B n cap : Nat} {l : Option Addr} {xs : List Value} {w4 : World} (hR : Rr w rb S a D N bad) (hRow : Row B w 1 l n cap xs) (hrb : rb < B) {wx : World} (hx : Below w.heap.size w wx) (hgr : wx.grownBy w4 (blockOf l)) :
    Rr w4 rb S a D N bad ∧ Kept (fun b => N1 rb b ∨ B ≤ b) w w4 :=
  ⟨Blk.grown (Blk.below hR hx) hgr (fun e => by have := (hRow.lt rb e).1; omega), ((Kept.refl _ w).calm hx).grown hgr (fun b e _ => .inr (hRow.lt b e).1)⟩
end
end Go.Proofs.YtofpdhkdnbnobaaDoor
