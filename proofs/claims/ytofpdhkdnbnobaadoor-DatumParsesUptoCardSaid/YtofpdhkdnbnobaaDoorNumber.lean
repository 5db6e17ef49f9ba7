/-
  The program's reader: number (walk). Not a statement of the seat.
-/
import Derived.Test.YtofpdhkdnbnobaaDoorWhile
import Derived.Lib.AtoiErrMem
namespace Go.Proofs.YtofpdhkdnbnobaaDoor
open Go.RowKit

/-- what the library's variables hold -/
structure Lb (w : World) : Prop where
  size : 7 ≤ w.heap.size
  tab : Lib.TabIs Tryd.prog w "internal/strconv.uint64pow10" .u64 Lib.pow10Tab
  syn : ∃ te pe, w.cell? ⟨2, 0, none⟩ = some (.iface te pe)
  rng : ∃ te pe, w.cell? ⟨3, 0, none⟩ = some (.iface te pe)
  tz : w.cell? ⟨6, 15, none⟩ = some (.int .u8 4)

theorem Lb.same {w w' : World} (h : Lb w) (hs : w.heap.size ≤ w'.heap.size) (hb : ∀ b, b < 7 → w'.heap[b]? = w.heap[b]?) : Lb w' := by
  obtain ⟨h1, h2, ⟨te, pe, h3⟩, ⟨tf, pf, h4⟩, h5⟩ := h
  refine ⟨by omega, ?_, ⟨te, pe, (World.cell?_of_block (a := ⟨2, 0, none⟩) (hb 2 (by omega))).trans h3⟩, ⟨tf, pf, (World.cell?_of_block (a := ⟨3, 0, none⟩) (hb 3 (by omega))).trans h4⟩, (World.cell?_of_block (a := ⟨6, 15, none⟩) (hb 6 (by omega))).trans h5⟩
  have hg : Tryd.prog.globalNamed "internal/strconv.uint64pow10" = some 1 := by kernel_rfl
  unfold Lib.TabIs World.var? at h2 ⊢
  rw [hg] at h2 ⊢
  simp only [Option.bind_some] at h2 ⊢
  rw [hb 1 (by omega)]
  exact h2
theorem Lb.below {w w' : World} (h : Lb w) {B : Nat} (g : Below B w w') (hB : 7 ≤ B) : Lb w' := h.same g.size (fun b hb => g.block b (by omega))
theorem Lb.keep {w w' : World} (h : Lb w) {N : Nat → Prop} (g : Kept N w w') (hN : ∀ b, b < 7 → ¬ N b) : Lb w' := h.same g.size (fun b hb => g.block b (by have := h.size; omega) (hN b hb))

theorem below_grow (w : World) (os : Array Obj) (k : Nat) : Below w.heap.size w (Go.Sort.grow (w.drewN k) os) := by
  have h := below_drewN w.heap.size w k
  refine ⟨h.os, h.tape, h.output, ?_, fun b hb => ?_⟩
  · have := h.size
    simp only [Go.Sort.grow, Array.size_append]
    omega
  · rw [← h.block b hb]
    have := h.size
    simp only [Go.Sort.grow]
    rw [Array.getElem?_append_left (by omega)]

theorem decimalN {n : Int} {w : World} (h0 : -9223372036854775808 ≤ n) (h1 : n ≤ 9223372036854775807) (h : Lb w) :
    Calls Tryd.prog 55 #[.int .i64 n] w (fun e w' => e = .returned (.string ⟨(dec n).toArray⟩) ∧ Below w.heap.size w w') := by
  have hd := dec_eq n h0 h1
  have HT := Lib.hid h.tab
  clear h
  go_enter Tryd.func55, Tryd.ntmps55
  go_wp2_with (go_at_call 72; refine (Tryd.strconv_FormatInt_10 _ h0 h1 _ HT.out).mono ?_; rintro e w1 ⟨rfl, k, os, rfl⟩)
  go_ret
  exact ⟨by rw [hd]; rfl, below_grow _ _ _⟩

theorem parseN {s : ByteArray} {w : World} (hs : s.size ≤ 1000000000001) (h : Lb w) :
    Calls Tryd.prog 81 #[.string s, .int .i64 10, .int .i64 64] w (fun e w' => ∃ n er, e = .returned (.tuple #[.int .i64 n, er]) ∧ (-9223372036854775808 ≤ n ∧ n ≤ 9223372036854775807) ∧ Below w.heap.size w w' ∧
      ((Lib.parseIntB 64 s.data.toList = .ok n ∧ er = .nilIface) ∨ ((∀ v, Lib.parseIntB 64 s.data.toList ≠ .ok v) ∧ ∃ p, er = .iface 151 p))) := by
  obtain ⟨te, pe, h3⟩ := h.syn
  obtain ⟨tf, pf, h4⟩ := h.rng
  cases hv : Lib.parseIntB 64 s.data.toList with
  | ok v =>
    refine (Tryd.strconv_ParseInt_10_at64_ok s (by omega) v hv w).mono ?_
    rintro e w1 ⟨rfl, hw⟩
    refine ⟨v, .nilIface, rfl, ?_, ?_, .inl ⟨rfl, rfl⟩⟩
    · have := Lib.parseIntB_bounds hv
      simp only [Nat.reducePow, Nat.reduceSub] at this
      omega
    · rcases hw with rfl | ⟨t, rfl⟩
      · exact Below.refl _ _
      · exact Lib.bytesWorld_below _ _ _
  | range =>
    refine (Tryd.strconv_ParseInt_10_at64_range s (by omega) hv _ w h4 (.inr ⟨tf, pf, rfl⟩)).mono ?_
    rintro e w1 ⟨N, rfl, _, _, hw⟩
    refine ⟨_, _, rfl, ?_, hw, .inr ⟨fun v e => (by cases e), _, rfl⟩⟩
    unfold Lib.intSat
    split <;> omega
  | _ =>
    refine (Tryd.strconv_ParseInt_10_at64_syntax s (by omega) (show Lib.parseIntB 64 s.data.toList = Lib.parseIntB 64 [] from hv) _ w h3 (.inr ⟨te, pe, rfl⟩)).mono ?_
    rintro e w1 ⟨N, rfl, _, _, hw⟩
    exact ⟨0, _, rfl, by omega, hw, .inr ⟨fun v e => (by cases e), _, rfl⟩⟩

theorem nn0 (w : World) : (binOp BinOp.neq 88 .nilIface .nilIface).run Tryd.prog w = .ok (.bool false) w := by kernel_rfl
theorem nn1 (p : Value) (w : World) : (binOp BinOp.neq 88 (.iface 151 p) .nilIface).run Tryd.prog w = .ok (.bool true) w := by kernel_rfl
theorem ng0 (a : Operand) (w : World) : (eqGuard .neq 88 a (.const .nilIface) .nilIface .nilIface).run Tryd.prog w = .ok () w := by cases a <;> rfl
theorem ng1 (a : Operand) (p : Value) (w : World) : (eqGuard .neq 88 a (.const .nilIface) (.iface 151 p) .nilIface).run Tryd.prog w = .ok () w := by cases a <;> rfl

theorem dec_set : (({ data := #[48, 49, 50, 51, 52, 53, 54, 55, 56, 57, 97, 98, 99, 100, 101, 102] } : ByteArray).extract 0 10).data.toList = decD := by decide

theorem numText_at {S : ByteArray} {a : Nat} {c : ByteArray} (hc : c.data.toList = (if signM S.data.toList a then [45] else [])) :
    (c ++ S.extract (digM S.data.toList a) (numTo S.data.toList a)).data.toList = numText S.data.toList a := by
  rw [ByteArray.data_append, Array.toList_append, hc, Lib.extract_data]
  unfold numText numTo
  rw [Nat.add_sub_cancel_left]

/-- the number's text is accepted, or not -/
theorem number_tail {v : Int} {L : Bs} {a : Nat} (hv : numberM L a = some v) : Lib.parseIntB 64 (numText L a) = .ok v ∧ dec v = numText L a := by
  unfold numberM at hv
  split at hv
  · rename_i u hu
    split at hv
    · cases hv; rename_i h; exact ⟨hu, h⟩
    · cases hv
  · cases hv
theorem number_none {n : Int} {L : Bs} {a : Nat} (hv : numberM L a = none) (h : Lib.parseIntB 64 (numText L a) = .ok n) : dec n ≠ numText L a := by
  intro e
  unfold numberM at hv
  rw [h] at hv
  simp only [e, ↓reduceIte] at hv
  cases hv

theorem str_eq {s : ByteArray} {L : Bs} (h : s.data.toList = L) : (⟨L.toArray⟩ : ByteArray) = s := by
  subst h
  exact Lib.mk_data s

set_option maxRecDepth 100000 in
theorem numberT {rb a deep : Nat} {S : ByteArray} {v : Int} {w : World} (h : Rdr w rb S a deep false) (ha : a ≤ S.size) (hS : S.size ≤ 1000000000000) (hL : Lb w) (hrb : 7 ≤ rb) (hv : numberM S.data.toList a = some v) :
    Calls Tryd.prog 64 #[.pointer (some ⟨rb, 0, none⟩)] w (fun e w' => e = .returned (.int .i64 v) ∧ Rdr w' rb S (numTo S.data.toList a) deep false ∧ Kept (N1 rb) w w') := by
  obtain ⟨hp, hd⟩ := number_tail hv
  have HP := Lib.hid hp
  have HD := Lib.hid hd
  clear hv hp hd
  cases hsg : signM S.data.toList a
  · have hdg : digM S.data.toList a = a := by simp [digM, hsg]
    have hto : numTo S.data.toList a = a + whileM S.data.toList a decD := by rw [numTo, hdg]
    have htx := numText_at (S := S) (a := a) (c := ⟨#[]⟩) (by simp [hsg])
    rw [hdg, hto] at htx
    rw [hto]
    generalize hn : whileM S.data.toList a decD = n at *
    have hle := whileM_le S.data.toList a decD (by rw [← Lib.size_eq]; exact ha)
    rw [hn, ← Lib.size_eq] at hle
    have HN := Lib.hid hn
    have HTX := Lib.hid htx
    have HSG := Lib.hid hsg
    have HL := Lib.hid hL
    clear hn htx hsg hdg hto hL
    go_enter Tryd.func64, Tryd.ntmps64
    go_wp2_with (go_at_call 63; refine (hasF (t := ⟨#[45]⟩) h ha HSG.out).mono ?_; rintro e w1 ⟨rfl, m, rfl⟩)
    go_wp2_with (go_at_call 65; refine (whileN (n := n) (h.below (below_drewN _ _ _)) ha hS (by rw [dec_set]; exact HN.out)).mono ?_; rintro e w1 ⟨rfl, h1, k1⟩)
    have hL1 : Lb w1 := (HL.out.below (below_drewN _ _ _) (Nat.le_refl 7)).keep k1 (fun b hb e => by unfold N1 at e; omega)
    have hK1 : Kept (N1 rb) w w1 := ((Kept.refl _ _).calm (below_drewN _ _ _)).trans k1
    generalize hs : (({ data := #[] } : ByteArray) ++ S.extract a (a + n)) = s at *
    have hsz : s.size ≤ 1000000000001 := by
      rw [Lib.size_eq, ← hs, ByteArray.data_append, Array.toList_append, List.length_append, ← Lib.size_eq (S.extract a (a + n)), ByteArray.size_extract]
      simp only [List.length_nil]; omega
    clear h k1 hs
    go_wp2_with (go_at_call 81; refine (parseN hsz hL1).mono ?_; rintro e w2 ⟨n2, er, rfl, hb2, hB2, hcase⟩)
    have hc2 : n2 = v ∧ er = .nilIface := by
      rcases hcase with ⟨h5, h6⟩ | ⟨h5, _⟩
      · rw [HTX.out, HP.out] at h5; cases h5; exact ⟨rfl, h6⟩
      · exact absurd (by rw [HTX.out]; exact HP.out) (h5 v)
    obtain ⟨rfl, rfl⟩ := hc2
    clear hcase
    have hst : (⟨(dec n2).toArray⟩ : ByteArray) = s := str_eq (by rw [HTX.out]; exact HD.out.symm)
    have h2 := h1.below hB2
    have hL2 := hL1.below hB2 (hL1.size)
    have hK2 := hK1.calm hB2
    go_wp2_with fail
    rw [ng0]
    simp only [Result.andThen]
    rw [nn0]
    go_wp2_with (go_at_call 55; refine (decimalN hb2.1 hb2.2 hL2).mono ?_; rintro e w3 ⟨rfl, hB3⟩)
    have h3 := h2.below hB3
    have hK3 := hK2.calm hB3
    go_ret
    exact ⟨rfl, h3, hK3⟩
  · have hdg : digM S.data.toList a = a + 1 := by simp [digM, hsg]
    have hto : numTo S.data.toList a = a + 1 + whileM S.data.toList (a + 1) decD := by rw [numTo, hdg]
    have htx := numText_at (S := S) (a := a) (c := ⟨#[45]⟩) (by simp [hsg])
    rw [hdg, hto] at htx
    rw [hto]
    have ha1 : a + 1 ≤ S.size := by
      have := hasM_len hsg
      rw [← Lib.size_eq] at this
      simpa using this
    generalize hn : whileM S.data.toList (a + 1) decD = n at *
    have hle := whileM_le S.data.toList (a + 1) decD (by rw [← Lib.size_eq]; exact ha1)
    rw [hn, ← Lib.size_eq] at hle
    have HN := Lib.hid hn
    have HTX := Lib.hid htx
    have HSG := Lib.hid hsg
    have HL := Lib.hid hL
    clear hn htx hsg hdg hto hL
    go_enter Tryd.func64, Tryd.ntmps64
    go_wp2_with (go_at_call 63; refine (hasT (t := ⟨#[45]⟩) h ha hS (by decide) HSG.out).mono ?_; rintro e w1 ⟨rfl, h0, k0⟩)
    go_wp2_with (go_at_call 65; refine (whileN (n := n) (a := a + 1) h0 ha1 hS (by rw [dec_set]; exact HN.out)).mono ?_; rintro e w1x ⟨rfl, h1, k1⟩)
    rename World => w1
    have hL1 : Lb w1 := (HL.out.keep k0 (fun b hb e => by unfold N1 at e; omega)).keep k1 (fun b hb e => by unfold N1 at e; omega)
    have hK1 : Kept (N1 rb) w w1 := k0.trans k1
    generalize hs : (({ data := #[45] } : ByteArray) ++ S.extract (a + 1) (a + 1 + n)) = s at *
    have hsz : s.size ≤ 1000000000001 := by
      rw [Lib.size_eq, ← hs, ByteArray.data_append, Array.toList_append, List.length_append, ← Lib.size_eq (S.extract (a + 1) (a + 1 + n)), ByteArray.size_extract]
      simp only [List.length_cons, List.length_nil]; omega
    clear h k1 hs
    go_wp2_with (go_at_call 81; refine (parseN hsz hL1).mono ?_; rintro e w2 ⟨n2, er, rfl, hb2, hB2, hcase⟩)
    have hc2 : n2 = v ∧ er = .nilIface := by
      rcases hcase with ⟨h5, h6⟩ | ⟨h5, _⟩
      · rw [HTX.out, HP.out] at h5; cases h5; exact ⟨rfl, h6⟩
      · exact absurd (by rw [HTX.out]; exact HP.out) (h5 v)
    obtain ⟨rfl, rfl⟩ := hc2
    clear hcase
    have hst : (⟨(dec n2).toArray⟩ : ByteArray) = s := str_eq (by rw [HTX.out]; exact HD.out.symm)
    have h2 := h1.below hB2
    have hL2 := hL1.below hB2 (hL1.size)
    have hK2 := hK1.calm hB2
    go_wp2_with fail
    rw [ng0]
    simp only [Result.andThen]
    rw [nn0]
    go_wp2_with (go_at_call 55; refine (decimalN hb2.1 hb2.2 hL2).mono ?_; rintro e w3 ⟨rfl, hB3⟩)
    have h3 := h2.below hB3
    have hK3 := hK2.calm hB3
    go_ret
    exact ⟨rfl, h3, hK3⟩

set_option maxRecDepth 100000 in
theorem numberF {rb a deep : Nat} {S : ByteArray} {w : World} (h : Rdr w rb S a deep false) (ha : a ≤ S.size) (hS : S.size ≤ 1000000000000) (hL : Lb w) (hrb : 7 ≤ rb) (hv : numberM S.data.toList a = none) :
    Calls Tryd.prog 64 #[.pointer (some ⟨rb, 0, none⟩)] w (fun e w' => (∃ v, e = .returned (.int .i64 v)) ∧ Rdr w' rb S (numTo S.data.toList a) deep true ∧ Kept (N1 rb) w w') := by
  have HV := Lib.hid hv
  clear hv
  cases hsg : signM S.data.toList a
  · have hdg : digM S.data.toList a = a := by simp [digM, hsg]
    have hto : numTo S.data.toList a = a + whileM S.data.toList a decD := by rw [numTo, hdg]
    have htx := numText_at (S := S) (a := a) (c := ⟨#[]⟩) (by simp [hsg])
    rw [hdg, hto] at htx
    rw [hto]
    generalize hn : whileM S.data.toList a decD = n at *
    have hle := whileM_le S.data.toList a decD (by rw [← Lib.size_eq]; exact ha)
    rw [hn, ← Lib.size_eq] at hle
    have HN := Lib.hid hn
    have HTX := Lib.hid htx
    have HSG := Lib.hid hsg
    have HL := Lib.hid hL
    clear hn htx hsg hdg hto hL
    go_enter Tryd.func64, Tryd.ntmps64
    go_wp2_with (go_at_call 63; refine (hasF (t := ⟨#[45]⟩) h ha HSG.out).mono ?_; rintro e w1 ⟨rfl, m, rfl⟩)
    go_wp2_with (go_at_call 65; refine (whileN (n := n) (h.below (below_drewN _ _ _)) ha hS (by rw [dec_set]; exact HN.out)).mono ?_; rintro e w1 ⟨rfl, h1, k1⟩)
    have hL1 : Lb w1 := (HL.out.below (below_drewN _ _ _) (Nat.le_refl 7)).keep k1 (fun b hb e => by unfold N1 at e; omega)
    have hK1 : Kept (N1 rb) w w1 := ((Kept.refl _ _).calm (below_drewN _ _ _)).trans k1
    generalize hs : (({ data := #[] } : ByteArray) ++ S.extract a (a + n)) = s at *
    have hsz : s.size ≤ 1000000000001 := by
      rw [Lib.size_eq, ← hs, ByteArray.data_append, Array.toList_append, List.length_append, ← Lib.size_eq (S.extract a (a + n)), ByteArray.size_extract]
      simp only [List.length_nil]; omega
    clear h k1 hs
    go_wp2_with (go_at_call 81; refine (parseN hsz hL1).mono ?_; rintro e w2 ⟨n2, er, rfl, hb2, hB2, hcase⟩)
    have h2 := h1.below hB2
    have hL2 := hL1.below hB2 (hL1.size)
    have hK2 := hK1.calm hB2
    have c3 := h2.cell 3 rfl
    have f3 := h2.free 3 (by simp)
    rcases hcase with ⟨h5, rfl⟩ | ⟨_, p, rfl⟩
    · rw [HTX.out] at h5
      have hst : (dec n2 == s.toList) = false := by
        rw [Lib.toList_data, HTX.out]
        exact beq_eq_false_iff_ne.2 (number_none HV.out h5)
      clear h5
      go_wp2_with fail
      rw [ng0]
      simp only [Result.andThen]
      rw [nn0]
      clear c3 f3
      go_wp2_with (go_at_call 55; refine (decimalN hb2.1 hb2.2 hL2).mono ?_; rintro e w3 ⟨rfl, hB3⟩; have h3 := h2.below hB3; have hK3 := hK2.calm hB3; have c3 := h3.cell 3 rfl; have f3 := h3.free 3 (by simp))
      go_ret
      exact ⟨⟨_, rfl⟩, by simpa [Rdr] using h3.set (j := 3) (.bool true), hK3.put (p := ⟨rb, 3, none⟩) _ (fun _ => rfl)⟩
    · go_wp2_with fail
      rw [ng1]
      simp only [Result.andThen]
      rw [nn1]
      go_wp2_with fail
      go_ret
      exact ⟨⟨_, rfl⟩, by simpa [Rdr] using h2.set (j := 3) (.bool true), hK2.put (p := ⟨rb, 3, none⟩) _ (fun _ => rfl)⟩
  · have hdg : digM S.data.toList a = a + 1 := by simp [digM, hsg]
    have hto : numTo S.data.toList a = a + 1 + whileM S.data.toList (a + 1) decD := by rw [numTo, hdg]
    have htx := numText_at (S := S) (a := a) (c := ⟨#[45]⟩) (by simp [hsg])
    rw [hdg, hto] at htx
    rw [hto]
    have ha1 : a + 1 ≤ S.size := by
      have := hasM_len hsg
      rw [← Lib.size_eq] at this
      simpa using this
    generalize hn : whileM S.data.toList (a + 1) decD = n at *
    have hle := whileM_le S.data.toList (a + 1) decD (by rw [← Lib.size_eq]; exact ha1)
    rw [hn, ← Lib.size_eq] at hle
    have HN := Lib.hid hn
    have HTX := Lib.hid htx
    have HSG := Lib.hid hsg
    have HL := Lib.hid hL
    clear hn htx hsg hdg hto hL
    go_enter Tryd.func64, Tryd.ntmps64
    go_wp2_with (go_at_call 63; refine (hasT (t := ⟨#[45]⟩) h ha hS (by decide) HSG.out).mono ?_; rintro e w1 ⟨rfl, h0, k0⟩)
    go_wp2_with (go_at_call 65; refine (whileN (n := n) (a := a + 1) h0 ha1 hS (by rw [dec_set]; exact HN.out)).mono ?_; rintro e w1x ⟨rfl, h1, k1⟩)
    rename World => w1
    have hL1 : Lb w1 := (HL.out.keep k0 (fun b hb e => by unfold N1 at e; omega)).keep k1 (fun b hb e => by unfold N1 at e; omega)
    have hK1 : Kept (N1 rb) w w1 := k0.trans k1
    generalize hs : (({ data := #[45] } : ByteArray) ++ S.extract (a + 1) (a + 1 + n)) = s at *
    have hsz : s.size ≤ 1000000000001 := by
      rw [Lib.size_eq, ← hs, ByteArray.data_append, Array.toList_append, List.length_append, ← Lib.size_eq (S.extract (a + 1) (a + 1 + n)), ByteArray.size_extract]
      simp only [List.length_cons, List.length_nil]; omega
    clear h k1 hs
    go_wp2_with (go_at_call 81; refine (parseN hsz hL1).mono ?_; rintro e w2 ⟨n2, er, rfl, hb2, hB2, hcase⟩)
    have h2 := h1.below hB2
    have hL2 := hL1.below hB2 (hL1.size)
    have hK2 := hK1.calm hB2
    have c3 := h2.cell 3 rfl
    have f3 := h2.free 3 (by simp)
    rcases hcase with ⟨h5, rfl⟩ | ⟨_, p, rfl⟩
    · rw [HTX.out] at h5
      have hst : (dec n2 == s.toList) = false := by
        rw [Lib.toList_data, HTX.out]
        exact beq_eq_false_iff_ne.2 (number_none HV.out h5)
      clear h5
      go_wp2_with fail
      rw [ng0]
      simp only [Result.andThen]
      rw [nn0]
      clear c3 f3
      go_wp2_with (go_at_call 55; refine (decimalN hb2.1 hb2.2 hL2).mono ?_; rintro e w3 ⟨rfl, hB3⟩; have h3 := h2.below hB3; have hK3 := hK2.calm hB3; have c3 := h3.cell 3 rfl; have f3 := h3.free 3 (by simp))
      go_ret
      exact ⟨⟨_, rfl⟩, by simpa [Rdr] using h3.set (j := 3) (.bool true), hK3.put (p := ⟨rb, 3, none⟩) _ (fun _ => rfl)⟩
    · go_wp2_with fail
      rw [ng1]
      simp only [Result.andThen]
      rw [nn1]
      go_wp2_with fail
      go_ret
      exact ⟨⟨_, rfl⟩, by simpa [Rdr] using h2.set (j := 3) (.bool true), hK2.put (p := ⟨rb, 3, none⟩) _ (fun _ => rfl)⟩
end Go.Proofs.YtofpdhkdnbnobaaDoor
