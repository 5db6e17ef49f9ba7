/-
  The document's reader: next, word, nibble, hex (walks). Not a statement of the seat.
-/
import Derived.Test.YtofpdhkdnbnobaaDoorParse
import Derived.Laws.StructEq
namespace Go.Proofs.YtofpdhkdnbnobaaDoor
open Go.RowKit

/-- the document's reader: its text, its place, its depth, how many values, whether it is none -/
def Rr (w : World) (rb : Nat) (S : ByteArray) (a deep n : Nat) (bad : Bool) : Prop := Blk w rb [.string S, .int .i64 a, .int .i64 deep, .int .i64 n, .bool bad]
/-- the byte at a place -/
def nx (L : Bs) (a : Nat) : UInt8 := L.getD a 0
set_option maxRecDepth 100000 in
theorem nextN {rb a deep n : Nat} {S : ByteArray} {bad : Bool} {w : World} (h : Rr w rb S a deep n bad) :
    Calls Tryd.prog 87 #[.pointer (some ⟨rb, 0, none⟩)] w (fun e w' => e = .returned (.int .u8 ((nx S.data.toList a).toNat : Nat)) ∧ Below w.heap.size w w') := by
  have c0 := h.cell 0 rfl
  have c1 := h.cell 1 rfl
  have hsz := Lib.size_eq S
  have HSZ := Lib.hid hsz
  clear hsz h
  go_enter Tryd.func87, Tryd.ntmps87
  by_cases hlt : a < S.size
  · have hli : (a : Int) < (S.size : Int) := by omega
    have hnx : (nx S.data.toList a).toNat = S[a].toNat := by
      unfold nx
      have : S.data.toList[a]? = some S[a] := by
        rw [List.getElem?_eq_getElem (by rw [← HSZ.out]; exact hlt)]
        simp [ByteArray.getElem_eq_getElem_data]
      simp [List.getD, this]
    rw [hnx]
    clear hnx
    go_wp2_with fail
    go_quiet (fail)
    go_wp2_with fail
    go_quiet (fail)
    go_wp2_with fail
    go_ret
    exact ⟨rfl, (below_drewN w.heap.size _ _).trans (below_drewN w.heap.size _ _)⟩
  · have hli : ¬ (a : Int) < (S.size : Int) := by omega
    have hnx : (nx S.data.toList a).toNat = 0 := by
      unfold nx
      have : S.data.toList[a]? = none := List.getElem?_eq_none (by rw [← HSZ.out]; omega)
      simp [List.getD, this]
    rw [hnx]
    clear hnx
    go_wp2_with fail
    go_quiet (fail)
    go_wp2_with fail
    go_ret
    exact ⟨rfl, below_drewN _ _ _⟩
theorem hasM_take (L t : Bs) (a : Nat) : hasM L a t = decide ((L.drop a).take t.length = t) := by
  unfold hasM
  rw [Bool.eq_iff_iff]
  simp only [decide_eq_true_eq, List.isPrefixOf_iff_prefix]
  rw [List.prefix_iff_eq_take]
  exact ⟨fun h => h.symm, fun h => h.symm⟩
theorem hasM_short {L t : Bs} {a : Nat} (h : L.length < a + t.length) (ht : t ≠ []) : hasM L a t = false := by
  cases hh : hasM L a t
  · rfl
  · rcases hasM_len hh with h1 | h1
    · omega
    · exact absurd h1 ht
theorem ext_take (S : ByteArray) (a n : Nat) : (S.extract a (a + n)).data.toList = (S.data.toList.drop a).take n := by
  simp [List.take_drop]
theorem ba_eq (x y : ByteArray) : (x == y) = decide (x.data.toList = y.data.toList) := by
  rw [beq_toListBytes, ByteArray.toList_eq, ByteArray.toList_eq, Bool.eq_iff_iff]
  simp
def WDP (rb : Nat) (S t : ByteArray) (a deep n : Nat) (bad : Bool) (w : World) (e : Ending) (w' : World) : Prop :=
  e = .returned (.bool (hasM S.data.toList a t.data.toList)) ∧ Rr w' rb S (if hasM S.data.toList a t.data.toList = true then a + t.size else a) deep n bad ∧ Kept (N1 rb) w w'
set_option maxRecDepth 100000 in
theorem wordN {rb a deep n : Nat} {S t : ByteArray} {bad : Bool} {w : World} (h : Rr w rb S a deep n bad) (ha : a ≤ 4000000000000) (hS : S.size ≤ 1000000000000) (ht : 0 < t.size) (ht9 : t.size ≤ 1000) :
    Calls Tryd.prog 88 #[.pointer (some ⟨rb, 0, none⟩), .string t] w (WDP rb S t a deep n bad w) := by
  have c0 := h.cell 0 rfl
  have c1 := h.cell 1 rfl
  have f1 := h.free 1 (by simp)
  have hsz := Lib.size_eq S
  have htz := Lib.size_eq t
  have HR := Lib.hid h
  have HSZ := Lib.hid (And.intro hsz htz)
  clear h hsz htz
  go_enter Tryd.func88, Tryd.ntmps88
  obtain ⟨dl, hdl⟩ : ∃ dl : Int, dl = (S.size : Int) - (a : Int) := ⟨_, rfl⟩
  have hwd : IntKind.i64.wrap ((S.size : Int) - (a : Int)) = dl := by rw [wrapI (by omega) (by omega), hdl]
  obtain ⟨b9, hb9⟩ : ∃ b9 : Nat, b9 = a + t.size := ⟨_, rfl⟩
  have hwb : IntKind.i64.wrap ((a : Int) + (t.size : Int)) = (b9 : Int) := by rw [wrapI (by omega) (by omega)]; omega
  have hwb2 : wrap64 ((a : Int) + (t.size : Int)) = (b9 : Int) := by unfold wrap64; omega
  have HD := Lib.hid hdl
  have HB9 := Lib.hid hb9
  by_cases hlt : a + t.size ≤ S.size
  · have hm : hasM S.data.toList a t.data.toList = decide ((S.data.toList.drop a).take t.size = t.data.toList) := by rw [hasM_take, ← HSZ.out.2]
    have he := ext_take S a t.size
    have hb := ba_eq (S.extract a (a + t.size)) t
    rw [he, ← hm, ← hb9, beq_toListBytes] at hb
    unfold WDP
    rw [← hb9]
    have hts : (t.size : Int) ≤ dl := by omega
    have hdec : decide ((t.size : Int) ≤ dl) = true := by simpa using hts
    have hcl : a ≤ b9 := by omega
    have hcl2 : b9 ≤ S.size := by omega
    have hci : (a : Int) ≤ (b9 : Int) := by omega
    have hci2 : (b9 : Int) ≤ (S.size : Int) := by omega
    clear hm he hdl hb9 hlt ha hS
    generalize hasM S.data.toList a t.data.toList = r at *
    cases r
    · go_wp2_with fail
      go_quiet (fail)
      go_wp2_with fail
      go_ret
      exact ⟨rfl, Blk.below HR.out (below_drewN w.heap.size w _), (Kept.refl _ _).calm (below_drewN _ _ _)⟩
    · have hQ := fun m => Lib.hid (And.intro (show Rr ((w.drewN m).setCell ⟨rb, 1, none⟩ (.int .i64 (b9 : Nat))) rb S b9 deep n bad by simpa [Rr] using (HR.out.below (below_drewN w.heap.size w m)).set (j := 1) (.int .i64 (b9 : Nat))) (show Kept (N1 rb) w ((w.drewN m).setCell ⟨rb, 1, none⟩ (.int .i64 (b9 : Nat))) from ((Kept.refl (N1 rb) w).calm (below_drewN _ _ m)).put (p := ⟨rb, 1, none⟩) _ (fun _ => rfl)))
      go_wp2_with fail
      go_quiet (fail)
      go_wp2_with fail
      go_ret
      exact ⟨rfl, (hQ _).out.1, (hQ _).out.2⟩
  · have hts : ¬ (t.size : Int) ≤ dl := by omega
    have hdec : decide ((t.size : Int) ≤ dl) = false := by simpa using hts
    have hm : hasM S.data.toList a t.data.toList = false := hasM_short (by rw [← HSZ.out.1, ← HSZ.out.2]; omega) (fun e => by have := HSZ.out.2; rw [e, List.length_nil] at this; omega)
    unfold WDP
    rw [hm]
    clear hm hdl hb9 hlt ha hS
    go_wp2_with fail
    go_quiet (fail)
    go_wp2_with fail
    go_ret
    exact ⟨rfl, Blk.below HR.out (below_drewN w.heap.size w _), (Kept.refl _ _).calm (below_drewN _ _ _)⟩
end Go.Proofs.YtofpdhkdnbnobaaDoor
