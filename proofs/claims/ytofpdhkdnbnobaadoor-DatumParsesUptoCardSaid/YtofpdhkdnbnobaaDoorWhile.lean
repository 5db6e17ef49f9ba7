/-
  The program's reader: while (walk). Not a statement of the seat.
-/
import Derived.Test.YtofpdhkdnbnobaaDoorReader
import Derived.WalkSmall
namespace Go.Proofs.YtofpdhkdnbnobaaDoor
open Go.RowKit

theorem runM_le (set : Bs) : ∀ L : Bs, runM set L ≤ L.length
  | [] => Nat.le_refl _
  | c :: r => by
    have := runM_le set r
    unfold runM
    split <;> simp only [List.length_cons] <;> omega
theorem whileM_le (L : Bs) (a : Nat) (set : Bs) (h : a ≤ L.length) : a + whileM L a set ≤ L.length := by
  have := runM_le set (L.drop a)
  rw [List.length_drop] at this
  unfold whileM
  omega
theorem drop_at {L : Bs} {i : Nat} (h : i < L.length) : L.drop i = L[i] :: L.drop (i + 1) := (List.drop_eq_getElem_cons h)
theorem whileM_step {L : Bs} {i : Nat} {set : Bs} (h : i < L.length) : whileM L i set = if 0 ≤ Go.Lib.indexByte set L[i] then whileM L (i + 1) set + 1 else 0 := by
  unfold whileM
  rw [drop_at h, runM]
theorem whileM_end {L : Bs} {i : Nat} {set : Bs} (h : L.length ≤ i) : whileM L i set = 0 := by
  unfold whileM
  rw [List.drop_of_length_le h]
  rfl
theorem byte_back (c : UInt8) : ((c.toNat : Int)).toNat.toUInt8 = c := by simp

theorem wrapI {z : Int} (h0 : -9223372036854775808 ≤ z) (h1 : z ≤ 9223372036854775807) : IntKind.i64.wrap z = z := by
  rw [IntKind.wrap_i64]; omega
def WRel (rb a deep n : Nat) (bad : Bool) (S set : ByteArray) (w : World) (t : Value) (wr : World) : Prop :=
  ∃ k, k ≤ n ∧ t = .int .i64 (k : Nat) ∧ Rdr wr rb S a deep bad ∧ Kept (N1 rb) w wr ∧ n = k + whileM S.data.toList (a + k) set.data.toList

theorem rdr_at {rb a a' deep m : Nat} {S : ByteArray} {bad : Bool} {w : World} (h : Rdr w rb S a deep bad) : Rdr ((w.drewN m).setCell ⟨rb, 1, none⟩ (.int .i64 (a' : Nat))) rb S a' deep bad ∧ Kept (N1 rb) w ((w.drewN m).setCell ⟨rb, 1, none⟩ (.int .i64 (a' : Nat))) :=
  ⟨by simpa [Rdr] using (h.below (below_drewN w.heap.size w m)).set (j := 1) (.int .i64 (a' : Nat)), ((Kept.refl (N1 rb) w).calm (below_drewN _ _ m)).put (p := ⟨rb, 1, none⟩) _ (fun _ => rfl)⟩

theorem whileN {rb a deep n : Nat} {S set : ByteArray} {bad : Bool} {w : World} (h : Rdr w rb S a deep bad) (ha : a ≤ S.size) (hS : S.size ≤ 1000000000000) (hn : whileM S.data.toList a set.data.toList = n) :
    Calls Tryd.prog 65 #[.pointer (some ⟨rb, 0, none⟩), .string set] w (fun e w' => e = .returned (.string (S.extract a (a + n))) ∧ Rdr w' rb S (a + n) deep bad ∧ Kept (N1 rb) w w') := by
  have hsz := Lib.size_eq S
  have hle : a + n ≤ S.size := by rw [hsz, ← hn]; exact whileM_le _ _ _ (by omega)
  have HSZ := Lib.hid hsz
  have H0 := Lib.hid (show WRel rb a deep n bad S set w (.int .i64 0) w from ⟨0, Nat.zero_le _, rfl, h, Kept.refl _ _, by simp [hn]⟩)
  clear h hn hsz
  go_enter Tryd.func65, Tryd.ntmps65
  go_wp2_with fail
  go_loopw [5] (fun t wr => WRel rb a deep n bad S set w t wr) (fun t _ => n - (intOf t).toNat)
  case atStart => exact H0.out
  case round =>
    obtain ⟨k, hk, rfl, hR, hK, hl⟩ := hrel
    have c0 := hR.cell 0 rfl
    have c1 := hR.cell 1 rfl
    have f1 := hR.free 1 (by simp)
    have HL := Lib.hid hl
    have HR := Lib.hid hR
    have HK := Lib.hid hK
    clear hl hR hK H0
    have hw : IntKind.i64.wrap ((a : Int) + (k : Int)) = ((a + k : Nat) : Int) := by
      rw [wrapI (by omega) (by omega)]; simp
    have HP := fun (q m : Nat) => rdr_at (m := m) (a' := q) HR.out
    have hw2 : IntKind.i64.wrap (((a + k : Nat) : Int) - (k : Int)) = (a : Int) := by
      rw [wrapI (by omega) (by omega)]; omega
    generalize hp : a + k = p at *
    have HPE := Lib.hid hp
    by_cases h1 : p < S.size
    · have h1i : (p : Int) < (S.size : Int) := by omega
      have hst := whileM_step (set := set.data.toList) (L := S.data.toList) (i := p) (by rw [← HSZ.out]; exact h1)
      have hgl : S.data.toList[p]'(by rw [← HSZ.out]; exact h1) = S[p] := by simp [ByteArray.getElem_eq_getElem_data]
      rw [hgl] at hst
      have hq : ∀ w', Calls Tryd.prog 82 #[.string set, .int .u8 (S[p].toNat : Int)] w' (fun e w'' => e = .returned (.int .i64 (Go.Lib.indexByte set.data.toList S[p])) ∧ w'' = w') := fun w' => by
        have := Tryd.strings_IndexByte set (S[p].toNat : Int) w'
        rw [byte_back] at this
        exact this
      have HST := Lib.hid hst
      clear hst hgl
      by_cases h2 : 0 ≤ Go.Lib.indexByte set.data.toList S[p]
      · have HR2 := Lib.hid (show WRel rb a deep n bad S set w (.int .i64 ((k + 1 : Nat) : Int)) wr from ⟨k + 1, by have := HL.out; have := HST.out; rw [if_pos h2] at this; omega, rfl, HR.out, HK.out, by
          have h3 := HL.out; have h4 := HST.out; rw [if_pos h2] at h4; rw [show a + (k + 1) = p + 1 by omega]; omega⟩)
        generalize Go.Lib.indexByte set.data.toList S[p] = x at *
        clear HST HL HP HPE hp HK
        go_wp2_with fail
        go_quiet (exact Calls.quiet_of_same (hq _))
        go_wp2_with fail
        go_roundw
        case rel =>
          obtain ⟨k', h5, h6, h7, h8, h9⟩ := HR2.out
          exact ⟨k', h5, by rw [← h6]; go_num, h7.below (below_drewN _ _ _), h8.calm (below_drewN _ _ _), h9⟩
        case measure => simp [intOf]; have := HR2.out; obtain ⟨k', h5, h6, _⟩ := this; cases h6; omega
      · have h4 : n = k := by have h3 := HL.out; have h5 := HST.out; rw [if_neg h2] at h5; omega
        subst h4
        have hpa : a + n = p := HPE.out
        have h0p : (a : Int) ≤ (p : Int) := by omega
        have hps : (p : Int) ≤ (S.size : Int) := by omega
        clear HL HST HPE
        generalize Go.Lib.indexByte set.data.toList S[p] = x at *
        go_wp2_with fail
        go_quiet (exact Calls.quiet_of_same (hq _))
        go_wp2_with fail
        go_quiet (fail)
        go_wp2_with fail
        go_ret
        rw [hpa]
        exact ⟨rfl, (HP _ _).1.below (below_drewN _ _ _), HK.out.trans ((HP _ _).2.calm (below_drewN _ _ _))⟩
    · have h4 : n = k := by have h3 := HL.out; rw [whileM_end (by rw [← HSZ.out]; omega)] at h3; omega
      subst h4
      have hpa : a + n = p := HPE.out
      have h0p : (a : Int) ≤ (p : Int) := by omega
      have hps : (p : Int) ≤ (S.size : Int) := by omega
      have hnl : ¬ (p : Int) < (S.size : Int) := by omega
      clear HL HPE
      go_wp2_with fail
      go_quiet (fail)
      go_wp2_with fail
      go_quiet (fail)
      go_wp2_with fail
      go_ret
      rw [hpa]
      exact ⟨rfl, (HP _ _).1.below (below_drewN _ _ _), HK.out.trans ((HP _ _).2.calm (below_drewN _ _ _))⟩
end Go.Proofs.YtofpdhkdnbnobaaDoor
