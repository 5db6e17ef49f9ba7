/-
  quoted (walk). Not a statement of the seat.
-/
import Derived.Test.YtofpdhkdnbnobaaDoorUnpair
import Derived.ScopeJumps
import Derived.WalkMore
import Derived.Laws.IdiomStrings
namespace Go.Proofs.YtofpdhkdnbnobaaDoor
open Go.RowKit

/-- the least number of which R holds -/
theorem exists_least {R : Nat → Prop} (h : ∃ n, R n) : ∃ n, R n ∧ ∀ m, R m → n ≤ m := by
  obtain ⟨n, hn⟩ := h
  induction n using Nat.strongRecOn with
  | _ n ih =>
    by_cases hm : ∃ m, m < n ∧ R m
    · obtain ⟨m, h1, h2⟩ := hm
      exact ih m h1 h2
    · exact ⟨n, hn, fun m h => by
        by_cases hl : m < n
        · exact absurd ⟨m, hl, h⟩ hm
        · omega⟩
open Classical in
noncomputable def least (R : Nat → Prop) : Nat := if h : ∃ n, R n then Classical.choose (exists_least h) else 0
theorem least_spec {R : Nat → Prop} (h : ∃ n, R n) : R (least R) := by
  unfold least
  rw [dif_pos h]
  exact (Classical.choose_spec (exists_least h)).1
theorem least_le {R : Nat → Prop} {n : Nat} (h : R n) : least R ≤ n := by
  unfold least
  rw [dif_pos ⟨n, h⟩]
  exact (Classical.choose_spec (exists_least ⟨n, h⟩)).2 n h

/-- a scope whose jumps go forward alone -/
theorem wp_scope_fwd {P : Program} {c rest : Code} {a : Act} {w : World} {Q : Exit → Act → World → Prop} (l : Nat) (hf : findLabel c l = some rest)
    (first : c.wp P (Exit.jump l (fun a' w' => rest.wp P (Exit.jump l (fun _ _ => False) Q) a' w') Q) a w) : (Code.scope c).wp P Q a w := by
  refine wp_scope_jumps l _ (fun _ _ => 0) hf first (fun a w h => wp_mono h ?_)
  intro e a w hq
  cases e <;> first | exact hq | exact ⟨hq.1, hq.2.elim⟩

/-- what quoted comes to -/
def QP (rb : Nat) (S : ByteArray) (deep : Nat) (w : World) (res : Res Bs) (e : Ending) (w' : World) : Prop :=
  match res with
  | .ok o b => e = .returned (.string ⟨o.toArray⟩) ∧ (Rdr w' rb S b deep false ∧ b ≤ S.size) ∧ Kept (N1 rb) w w'
  | .bad => e = .returned (.string ⟨#[]⟩) ∧ (∃ a', Rdr w' rb S a' deep true ∧ a' ≤ S.size) ∧ Kept (N1 rb) w w'
  | .out => True

/-- between two rounds -/
def QRel (rb : Nat) (S : ByteArray) (deep : Nat) (w : World) (res : Res Bs) (f : Nat) (t : Value) (wr : World) : Prop :=
  ∃ a o l n cap, t = .slice l n cap ∧ o.length = n ∧ n ≤ a ∧ a ≤ S.size ∧ Row w.heap.size wr 1 l n cap (B8 o) ∧ (Rdr wr rb S a deep false ∧ Kept (N1 rb) w wr) ∧ quotedM S.data.toList f a o = res

theorem Rdr.drewN {w : World} {rb a deep : Nat} {S : ByteArray} {bad : Bool} (h : Rdr w rb S a deep bad) (m : Nat) : Rdr (w.drewN m) rb S a deep bad := h.below (below_drewN _ _ _)
theorem Row.keep1 {B sz rb : Nat} {w w' : World} {a : Option Addr} {n cap : Nat} {xs : List Value} (h : Row B w sz a n cap xs) (g : Kept (N1 rb) w w') (hb : rb < B) : Row B w' sz a n cap xs :=
  h.keep g (fun b e hn => by have := (h.lt b e).1; unfold N1 at hn; omega)

theorem rdr_bad {rb a deep : Nat} {S : ByteArray} {bad : Bool} {w : World} (h : Rdr w rb S a deep bad) : Rdr (w.setCell ⟨rb, 3, none⟩ (.bool true)) rb S a deep true ∧ Kept (N1 rb) w (w.setCell ⟨rb, 3, none⟩ (.bool true)) :=
  ⟨by simpa [Rdr] using Blk.set h (j := 3) (.bool true), (Kept.refl (N1 rb) w).put (p := ⟨rb, 3, none⟩) _ (fun _ => rfl)⟩
theorem rdr_go {rb a a' deep : Nat} {S : ByteArray} {bad : Bool} {w : World} (h : Rdr w rb S a deep bad) : Rdr (w.setCell ⟨rb, 1, none⟩ (.int .i64 (a' : Nat))) rb S a' deep bad ∧ Kept (N1 rb) w (w.setCell ⟨rb, 1, none⟩ (.int .i64 (a' : Nat))) :=
  ⟨by simpa [Rdr] using Blk.set h (j := 1) (.int .i64 (a' : Nat)), (Kept.refl (N1 rb) w).put (p := ⟨rb, 1, none⟩) _ (fun _ => rfl)⟩

/-- a text that is not there, of a reader that is well or not -/
theorem hasFo {rb a deep : Nat} {S t : ByteArray} {w : World} {bad : Bool} (h : Rdr w rb S a deep bad) (ha : a ≤ S.size) (hv : bad = true ∨ hasM S.data.toList a t.data.toList = false) :
    Calls Tryd.prog 63 #[.pointer (some ⟨rb, 0, none⟩), .string t] w (fun e w' => e = .returned (.bool false) ∧ ∃ m, w' = w.drewN m) := by
  cases bad
  · exact hasF h ha (hv.resolve_left (by simp))
  · exact hasB h

section
variable {S : Bs} {a f : Nat} {o : Bs} {c : UInt8}
theorem quotedM_end (h : S[a]? = none) : quotedM S (f + 1) a o = .bad := by rw [quotedM, h]
theorem quotedM_at (h : S[a]? = some c) : quotedM S (f + 1) a o = (if c = 34 then .ok o (a + 1)
      else if c < 32 ∨ 126 < c then .bad
      else if c ≠ 92 then quotedM S f (a + 1) (o ++ [c])
      else if hasM S (a + 1) [34] then quotedM S f (a + 2) (o ++ [34])
      else if hasM S (a + 1) [92] then quotedM S f (a + 2) (o ++ [92])
      else if hasM S (a + 1) [120] then
        match unpairM ((S.drop (a + 2)).take 2) with
        | some [b] => if 32 ≤ b ∧ b ≤ 126 then .bad else quotedM S f (a + 4) (o ++ [b])
        | _ => .bad
      else .bad) := by rw [quotedM, h]; rfl
end

theorem conv_row {B : Nat} {w : World} {l : Option Addr} {n cap : Nat} {o : Bs} (h : Row B w 1 l n cap (B8 o)) : (convert 53 9 (.slice l n cap)).run Tryd.prog w = .ok (.string ⟨o.toArray⟩) w := by
  have hl := h.rd.len
  rw [B8_length, Nat.mul_one] at hl
  obtain ⟨h1, h2, h3, h4⟩ := h.rd
  rcases h4 with ⟨rfl, h5⟩ | ⟨b0, off, rfl, hlt, hc⟩
  · have hb : o = [] := List.eq_nil_of_length_eq_zero hl
    subst hb
    cases l with
    | none =>
      rw [h5 rfl, run_convert_bytes_string w 53 9 5 none 0 0 Tryd.underlying53 (by kernel_rfl) Tryd.underlying9]
      rfl
    | some a =>
      have := run_convert_bytes_back (P := Tryd.prog) w 53 9 5 a cap [] Tryd.underlying53 (by kernel_rfl) Tryd.underlying9 (fun j hj => by simp at hj)
      exact this
  · have := run_convert_bytes_back (P := Tryd.prog) w 53 9 5 ⟨b0, off, none⟩ cap o Tryd.underlying53 (by kernel_rfl) Tryd.underlying9 (fun j hj => by
      rw [Addr.add_lit, hc j (by rw [B8_length]; exact hj)]
      simp [B8, hj])
    rw [← hl]
    exact this

set_option maxRecDepth 100000 in
theorem quotedF {rb a deep : Nat} {S : ByteArray} {bad : Bool} {w : World} (h : Rdr w rb S a deep bad) (ha : a ≤ S.size) (hv : bad = true ∨ hasM S.data.toList a [34] = false) :
    Calls Tryd.prog 67 #[.pointer (some ⟨rb, 0, none⟩)] w (fun e w' => e = .returned (.string ⟨#[]⟩) ∧ Rdr w' rb S a deep true ∧ Kept (N1 rb) w w') := by
  go_enter Tryd.func67, Tryd.ntmps67
  go_wp2_with fail
  refine wp_scope_fwd 0 rfl ?_
  go_wp2_with (go_at_call 69; refine (wantF (t := ⟨#[34]⟩) h ha hv).mono ?_; rintro e w1 ⟨rfl, h1, k1⟩; have c3 := h1.cell 3 rfl; have f3 := h1.free 3 (by simp))
  go_step3
  refine ⟨rfl, ?_⟩
  go_wp2_with fail
  simp only [Exit.jump]
  go_ret
  exact ⟨rfl, (rdr_bad h1).1, k1.trans (rdr_bad h1).2⟩

theorem q_next {rb b deep n n' cap c4 f : Nat} {S : ByteArray} {res : Res Bs} {w wb wx w4 : World} {l a4 : Option Addr} {xs : List Value} {o : Bs} (hR : Rdr wb rb S b deep false) (hK : Kept (N1 rb) w wb) (hRow : Row w.heap.size wb 1 l n cap xs)
    (hrb : rb < w.heap.size) (hx : Below wb.heap.size wb wx) (hrow : Row w.heap.size w4 1 a4 n' c4 (B8 o)) (hgr : wx.grownBy w4 (blockOf l)) (ho : o.length = n') (hn : n' ≤ b) (hb : b ≤ S.size)
    (hq : quotedM S.data.toList f b o = res) : QRel rb S deep w res f (.slice a4 n' c4) w4 := by
  have hl : ∀ x, blockOf l = some x → w.heap.size ≤ x := fun x e => (hRow.lt x e).1
  refine ⟨b, o, a4, n', c4, rfl, ho, hn, hb, hrow, ⟨?_, (hK.calm hx).grown hgr (fun x e hlt => by have := hl x e; omega)⟩, hq⟩
  exact Blk.grown (hR.below hx) hgr (fun e => by have := hl rb e; omega)

theorem unpairM_len : ∀ (L : Bs) {bs : Bs}, unpairM L = some bs → L.length = 2 * bs.length
  | [], bs, h => by cases h; rfl
  | [_], bs, h => by simp [unpairM] at h
  | x :: y :: r, bs, h => by
    rw [unpairM] at h
    split at h
    · cases h
    · cases hr : unpairM r with
      | none => rw [hr] at h; cases h
      | some b' =>
        rw [hr] at h
        cases h
        have := unpairM_len r hr
        simp only [List.length_cons]
        omega

theorem q_rdr {rb b deep n cap : Nat} {S : ByteArray} {w w6 w4 : World} {l : Option Addr} {xs : List Value} (hR : Rdr w6 rb S b deep false) (hRow : Row w.heap.size w6 1 l n cap xs)
    (hrb : rb < w.heap.size) (hgr : w6.grownBy w4 (blockOf l)) : Rdr w4 rb S b deep false :=
  Blk.grown hR hgr (fun e => by have := (hRow.lt rb e).1; omega)
theorem q_next2 {rb b b' deep n n' cap c4 f : Nat} {S : ByteArray} {res : Res Bs} {w w6 w4 : World} {l a4 : Option Addr} {xs : List Value} {o : Bs} (hR : Rdr w6 rb S b deep false) (hK : Kept (N1 rb) w w6) (hRow : Row w.heap.size w6 1 l n cap xs)
    (hrb : rb < w.heap.size) (hrow : Row w.heap.size w4 1 a4 n' c4 (B8 o)) (hgr : w6.grownBy w4 (blockOf l)) (ho : o.length = n') (hn : n' ≤ b') (hb : b' ≤ S.size)
    (hq : quotedM S.data.toList f b' o = res) : QRel rb S deep w res f (.slice a4 n' c4) (w4.setCell ⟨rb, 1, none⟩ (.int .i64 (b' : Nat))) := by
  have hl : ∀ x, blockOf l = some x → w.heap.size ≤ x := fun x e => (hRow.lt x e).1
  obtain ⟨h1, h2⟩ := rdr_go (a' := b') (q_rdr hR hRow hrb hgr)
  exact ⟨b', o, a4, n', c4, rfl, ho, hn, hb, hrow.keep1 h2 hrb, ⟨h1, (hK.grown hgr (fun x e hlt => by have := hl x e; omega)).trans h2⟩, hq⟩

set_option maxHeartbeats 4000000 in
set_option maxRecDepth 100000 in
theorem quotedT {rb a deep f : Nat} {S : ByteArray} {res : Res Bs} {w : World} (h : Rdr w rb S a deep false) (ha : a ≤ S.size) (hS : S.size ≤ 1000000000000) (hv : hasM S.data.toList a [34] = true)
    (hq : quotedM S.data.toList f (a + 1) [] = res) (ho : res ≠ .out) :
    Calls Tryd.prog 67 #[.pointer (some ⟨rb, 0, none⟩)] w (QP rb S deep w res) := by
  obtain ⟨i0, hi, hy0, hy1, hy2⟩ := info_parts byteInfo
  have hsz := Lib.size_eq S
  have HSZ := Lib.hid hsz
  have hrb : rb < w.heap.size := h.lt
  have ha1 : a + 1 ≤ S.size := by
    have := hasM_len hv
    rw [← hsz] at this
    rcases this with h | h
    · exact h
    · cases h
  have HO := Lib.hid ho
  have HQ := Lib.hid hq
  clear ho hq hsz
  go_enter Tryd.func67, Tryd.ntmps67
  go_wp2_with fail
  refine wp_scope_fwd 0 rfl ?_
  go_wp2_with (go_at_call 69; refine (wantT (t := ⟨#[34]⟩) h ha hS (by decide) hv).mono ?_; rintro e w1 ⟨rfl, h1, k1⟩; have c3 := h1.cell 3 rfl)
  have H0 := Lib.hid (show ∃ f, QRel rb S deep w res f (.slice none 0 0) w1 from ⟨f, a + 1, [], none, 0, 0, rfl, rfl, by omega, ha1, Row.nil _ _ _, ⟨h1, k1⟩, HQ.out⟩)
  clear h h1 k1 HQ c3 hv
  go_loopw [3] (fun t wr => ∃ f, QRel rb S deep w res f t wr) (fun t wr => least (fun f => QRel rb S deep w res f t wr))
  case atStart => exact H0.out
  case round =>
    obtain ⟨f9, hf9, hle9⟩ : ∃ f, QRel rb S deep w res f _ wr ∧ f ≤ least (fun f => QRel rb S deep w res f _ wr) := ⟨_, least_spec hrel, Nat.le_refl _⟩
    have HLE := Lib.hid hle9
    obtain ⟨b, o, l, n, cap, rfl, hol, hnb, hb, hrow, ⟨hR, hK⟩, hq⟩ := hf9
    clear hrel hle9
    have c0 := hR.cell 0 rfl
    have c1 := hR.cell 1 rfl
    have c3 := hR.cell 3 rfl
    have f1 := hR.free 1 (by simp)
    have f3 := hR.free 3 (by simp)
    have HR := Lib.hid hR
    have HK := Lib.hid hK
    have HROW := Lib.hid hrow
    have HOL := Lib.hid hol
    have HQ := Lib.hid hq
    have hsz := Lib.size_eq S
    clear hR hK hrow hol hq H0
    cases f9 with
    | zero => exact absurd HQ.out.symm HO.out
    | succ f9 =>
    by_cases h1 : b < S.size
    · have h1i : (b : Int) < (S.size : Int) := by omega
      have hgc : S.data.toList[b]? = some S[b] := by
        rw [List.getElem?_eq_getElem (by rw [← hsz]; exact h1)]
        simp [ByteArray.getElem_eq_getElem_data]
      have HGC := Lib.hid (quotedM_at (f := f9) (o := o) hgc)
      clear hgc hsz
      obtain ⟨b1, hb1⟩ : ∃ b1, b1 = b + 1 := ⟨_, rfl⟩
      have hbi : (b : Int) + 1 = (b1 : Int) := by omega
      have hb1S : b1 ≤ S.size := by omega
      have HB1 := Lib.hid hb1
      clear hb1
      have hP := fun m => rdr_go (a' := b1) (HR.out.drewN m)
      go_wp2_with fail
      go_quiet (fail)
      go_wp2_with fail
      go_quiet (fail)
      generalize S[b] = c at *
      rename Nat => q9
      generalize hW : (wr.drewN _).drewN _ = wa
      have hRa : Rdr wa rb S b deep false := by rw [← hW]; exact (HR.out.drewN _).drewN _
      have hKa : Kept (N1 rb) wr wa := by rw [← hW]; exact ((Kept.refl _ _).calm (below_drewN _ _ _)).calm (below_drewN _ _ _)
      have c1a := hRa.cell 1 rfl
      have f1a := hRa.free 1 (by simp)
      obtain ⟨hRb, hKb⟩ := rdr_go (a' := b1) hRa
      have hKw : Kept (N1 rb) w (wa.setCell ⟨rb, 1, none⟩ (.int .i64 (b1 : Nat))) := HK.out.trans (hKa.trans hKb)
      have hRow := (HROW.out.keep1 hKa hrb).keep1 hKb hrb
      have HKW := Lib.hid hKw
      have HRB := Lib.hid hRb
      have HRW := Lib.hid hRow
      clear hKw hRb hKb hRa hKa hP hRow c0 c1 c3 f1 f3 HR HK HROW
      clear hW
      have hcv := conv_row HRW.out
      have hcb := c.toNat_lt
      by_cases h34 : c.toNat = 34
      · have hres : res = .ok o b1 := by
          rw [← HQ.out, HGC.out, if_pos (UInt8.toNat_inj.1 (by show c.toNat = 34; omega)), HB1.out]
        have hs34 : ((c.toNat : Int) == 34) = true := by rw [h34]; rfl
        go_wp2_with fail
        try simp only [Exit.jump]
        go_ret
        subst hres
        exact ⟨rfl, ⟨HRB.out, hb1S⟩, HKW.out⟩
      · have hc34 : ¬ c = 34 := fun e => h34 (by rw [e]; rfl)
        by_cases hrg : c.toNat < 32 ∨ 126 < c.toNat
        · have hres : res = .bad := by
            rw [← HQ.out, HGC.out, if_neg hc34, if_pos]
            rcases hrg with hrg | hrg
            · exact .inl (UInt8.lt_iff_toNat_lt.2 hrg)
            · exact .inr (UInt8.lt_iff_toNat_lt.2 hrg)
          obtain ⟨hRz, hKz⟩ := rdr_bad HRB.out
          have c3b := HRB.out.cell 3 rfl
          have f3b := HRB.out.free 3 (by simp)
          have HZ := Lib.hid (And.intro hRz hKz)
          clear hRz hKz
          rcases hrg with hrg | hrg
          · go_wp2_with fail
            go_step3
            refine ⟨rfl, ?_⟩
            go_wp2_with fail
            try simp only [Exit.jump]
            go_ret
            subst hres
            exact ⟨rfl, ⟨b1, HZ.out.1, hb1S⟩, HKW.out.trans HZ.out.2⟩
          · go_wp2_with fail
            go_step3
            refine ⟨rfl, ?_⟩
            go_wp2_with fail
            try simp only [Exit.jump]
            go_ret
            subst hres
            exact ⟨rfl, ⟨b1, HZ.out.1, hb1S⟩, HKW.out.trans HZ.out.2⟩
        · have hn32 : ¬ (c.toNat : Int) < 32 := by omega
          have hn126 : ¬ (126 : Int) < (c.toNat : Int) := by omega
          by_cases h92 : c.toNat = 92
          · have hc92 : ¬ ¬ c = 92 := fun e => e (UInt8.toNat_inj.1 (by show c.toNat = 92; omega))
            have hq92 := HQ.out
            rw [HGC.out, if_neg hc34, if_neg (by rw [UInt8.lt_iff_toNat_lt, UInt8.lt_iff_toNat_lt]; exact hrg), if_neg hc92, ← HB1.out] at hq92
            have HQ92 := Lib.hid hq92
            clear hq92 HQ HGC hrg hc34 hc92 hcv
            rw [h92]
            clear h92 hn32 hn126 h34 hcb
            generalize hwb : wa.setCell ⟨rb, 1, none⟩ (.int .i64 (b1 : Nat)) = wb at *
            by_cases hx : hasM S.data.toList b1 [34] = true
            · have HQN := Lib.hid (show quotedM S.data.toList f9 (b1 + 1) (o ++ [34]) = res by have h := HQ92.out; rw [if_pos hx] at h; rw [HB1.out]; exact h)
              have h1n : n + 1 ≤ b1 + 1 := by have := HB1.out; omega
              have HL := Lib.hid HKW.out.size
              have hl9 : n + 1 ≤ 1000000000000 := by have := HB1.out; omega
              have HOL1 := Lib.hid (show (o ++ [34]).length = n + 1 by rw [List.length_append, HOL.out]; rfl)
              have hb2S : b1 + 1 ≤ S.size := by
                rcases hasM_len hx with h | h
                · rw [← HSZ.out] at h; exact h
                · cases h
              go_wp2_with (first
                | (go_at_call 63; refine (hasT (t := ⟨#[34]⟩) HRB.out hb1S hS (by decide) hx).mono ?_; rintro e w2 ⟨rfl, h2, k2⟩
                   have HR9 := fun o => Lib.hid ((HRW.out.keep1 k2 hrb).alloc o)
                   have HL2 := Lib.hid k2.size
                   have HS9 := Lib.hid (Src.oneAt (P := Tryd.prog) (w := w2) (tx := 53) Tryd.underlying53 (.int .u8 34) 5 rfl (g := w2.heap.size) rfl))
                | (at_builtin; refine wpList_append_row rfl _ _ 53 53 rfl 5 i0 (.int .u8 0) 1 1 Tryd.underlying53 hi hy0 hy1 hy2 rfl rfl (HR9 _).out 1 _ HS9.out (by unfold maxLen; omega) (by omega) (by have := HL.out; have := HL2.out; simp; omega) ?_; intro a4 c4 w4 hrow hgr hbk4; have HR4 := Lib.hid hrow; have HG4 := Lib.hid hgr; clear hrow hgr hbk4))
              have hfin : QRel rb S deep w res f9 (.slice a4 (n + 1) c4) w4 := q_next (o := o ++ [34]) h2 (HKW.out.trans k2) (HRW.out.keep1 k2 hrb) hrb ((Below.refl _ _).alloc (Nat.le_refl _) _) (by rw [B8_append]; exact HR4.out) HG4.out HOL1.out h1n hb2S HQN.out
              exact ⟨⟨f9, hfin⟩, Nat.lt_of_le_of_lt (least_le hfin) (by have := HLE.out; omega)⟩
              
            · have hx34 : hasM S.data.toList b1 [34] = false := by simpa using hx
              by_cases hx : hasM S.data.toList b1 [92] = true
              · have HQN := Lib.hid (show quotedM S.data.toList f9 (b1 + 1) (o ++ [92]) = res by have h := HQ92.out; rw [hx34, if_neg (by simp), if_pos hx] at h; rw [HB1.out]; exact h)
                have h1n : n + 1 ≤ b1 + 1 := by have := HB1.out; omega
                have HL := Lib.hid HKW.out.size
                have hl9 : n + 1 ≤ 1000000000000 := by have := HB1.out; omega
                have HOL1 := Lib.hid (show (o ++ [92]).length = n + 1 by rw [List.length_append, HOL.out]; rfl)
                have hb2S : b1 + 1 ≤ S.size := by
                  rcases hasM_len hx with h | h
                  · rw [← HSZ.out] at h; exact h
                  · cases h
                have HF34 := Lib.hid (hasF (t := ⟨#[34]⟩) HRB.out hb1S hx34)
                go_wp2_with (first
                  | (go_at_call 63; with_reducible refine HF34.out.mono ?_; rintro e wc ⟨rfl, m, hwc⟩
                     have HRC := Lib.hid (show Rdr wc rb S b1 deep false by rw [hwc]; exact HRB.out.drewN m)
                     have HBC := Lib.hid (show Below wb.heap.size wb wc by rw [hwc]; exact below_drewN _ _ _)
                     have HF92 := Lib.hid (hasT (t := ⟨#[92]⟩) HRC.out hb1S hS (by decide) hx)
                     clear hwc)
                  | (go_at_call 63; with_reducible refine HF92.out.mono ?_; rintro e w2 ⟨rfl, h2, k2⟩
                     have HR9 := fun o => Lib.hid (((HRW.out.below HBC.out).keep1 k2 hrb).alloc o)
                     have HL2 := Lib.hid (Nat.le_trans HBC.out.size k2.size)
                     have HS9 := Lib.hid (Src.oneAt (P := Tryd.prog) (w := w2) (tx := 53) Tryd.underlying53 (.int .u8 92) 5 rfl (g := w2.heap.size) rfl))
                  | (at_builtin; refine wpList_append_row rfl _ _ 53 53 rfl 5 i0 (.int .u8 0) 1 1 Tryd.underlying53 hi hy0 hy1 hy2 rfl rfl (HR9 _).out 1 _ HS9.out (by unfold maxLen; omega) (by omega) (by have := HL.out; have := HL2.out; simp; omega) ?_; intro a4 c4 w4 hrow hgr hbk4; have HR4 := Lib.hid hrow; have HG4 := Lib.hid hgr; clear hrow hgr hbk4))
                have hfin : QRel rb S deep w res f9 (.slice a4 (n + 1) c4) w4 := q_next (o := o ++ [92]) h2 ((HKW.out.calm HBC.out).trans k2) ((HRW.out.below HBC.out).keep1 k2 hrb) hrb ((Below.refl _ _).alloc (Nat.le_refl _) _) (by rw [B8_append]; exact HR4.out) HG4.out HOL1.out h1n hb2S HQN.out
                exact ⟨⟨f9, hfin⟩, Nat.lt_of_le_of_lt (least_le hfin) (by have := HLE.out; omega)⟩
              · have hx92 : hasM S.data.toList b1 [92] = false := by simpa using hx
                obtain ⟨p, hp⟩ : ∃ p, p = b1 + 1 := ⟨_, rfl⟩
                obtain ⟨q, hq⟩ : ∃ q, q = b1 + 3 := ⟨_, rfl⟩
                have hw1 : IntKind.i64.wrap ((b1 : Int) + 1) = (p : Int) := by rw [wrapI (by omega) (by omega)]; omega
                have hw3 : IntKind.i64.wrap ((b1 : Int) + 3) = (q : Int) := by rw [wrapI (by omega) (by omega)]; omega
                obtain ⟨m1, hm1⟩ : ∃ m, m = min p S.size := ⟨_, rfl⟩
                obtain ⟨m2, hm2⟩ : ∃ m, m = min q S.size := ⟨_, rfl⟩
                have hi1 : min (p : Int) (S.size : Int) = (m1 : Int) := by omega
                have hi2 : min (q : Int) (S.size : Int) = (m2 : Int) := by omega
                have hmm : (m1 : Int) ≤ (m2 : Int) := by omega
                have hms : (m2 : Int) ≤ (S.size : Int) := by omega
                have HPQ := Lib.hid (And.intro hp (And.intro hq (And.intro hm1 hm2)))
                clear hp hq hm1 hm2
                have HF34 := Lib.hid (hasF (t := ⟨#[34]⟩) HRB.out hb1S hx34)
                go_wp2_with (first
                  | (go_at_call 63; with_reducible refine HF34.out.mono ?_; rintro e wc ⟨rfl, m, hwc⟩
                     have HRC := Lib.hid (show Rdr wc rb S b1 deep false by rw [hwc]; exact HRB.out.drewN m)
                     have HBC := Lib.hid (show Below wb.heap.size wb wc by rw [hwc]; exact below_drewN _ _ _)
                     have HF92 := Lib.hid (hasF (t := ⟨#[92]⟩) HRC.out hb1S hx92)
                     clear hwc)
                  | (go_at_call 63; with_reducible refine HF92.out.mono ?_; rintro e wd ⟨rfl, m, hwd⟩
                     have HRD := Lib.hid (show Rdr wd rb S b1 deep false by rw [hwd]; exact HRC.out.drewN m)
                     have HBD := Lib.hid (show Below wb.heap.size wb wd by rw [hwd]; exact HBC.out.trans (below_drewN _ _ _))
                     have c0d := HRD.out.cell 0 rfl
                     have c1d := HRD.out.cell 1 rfl
                     clear hwd))
                go_quiet (fail)
                generalize hwe : wd.drewN _ = we
                have HRE := Lib.hid (show Rdr we rb S b1 deep false by rw [← hwe]; exact HRD.out.drewN _)
                have HBE := Lib.hid (show Below wb.heap.size wb we by rw [← hwe]; exact HBD.out.trans (below_drewN _ _ _))
                clear hwe c0d c1d hw1 hw3 hi1 hi2 hmm hms
                have hes : (S.extract m1 m2).size ≤ 1000000000000 := by rw [ByteArray.size_extract]; have := HPQ.out; omega
                generalize hX : S.extract m1 m2 = X at *
                cases hx120 : hasM S.data.toList b1 [120]
                · have hres : res = .bad := by have h := HQ92.out; rw [hx34, hx92, hx120] at h; simp only [Bool.false_eq_true, if_false] at h; exact h.symm
                  have hbz : b1 ≤ S.size := hb1S
                  go_wp2_with (first
                    | (go_at_call 68; refine (unpairN hes).mono ?_; rintro e w5 ⟨a5, n5, cap5, ok, bs, rfl, hbl, hrow5, hB5, hcase⟩
                       have HRF := Lib.hid (show Rdr w5 rb S b1 deep false from HRE.out.below hB5)
                       have HBF := Lib.hid (HBE.out.trans (hB5.mono HBE.out.size))
                       have HF120 := Lib.hid (hasF (t := ⟨#[120]⟩) HRF.out hb1S hx120)
                       clear hbl hrow5 hB5 hcase)
                    | (go_at_call 63; with_reducible refine HF120.out.mono ?_; rintro e w6 ⟨rfl, m6, hw6⟩
                       have HRZ := Lib.hid (show Rdr w6 rb S b1 deep false by rw [hw6]; exact HRF.out.drewN _)
                       have HKZ := Lib.hid (show Kept (N1 rb) w w6 by rw [hw6]; exact (HKW.out.calm HBF.out).calm (below_drewN _ _ _))
                       clear hw6))
                  go_step3
                  refine ⟨rfl, ?_⟩
                  have c3z := HRZ.out.cell 3 rfl
                  have f3z := HRZ.out.free 3 (by simp)
                  have HZ := Lib.hid (rdr_bad HRZ.out)
                  go_wp2_with fail
                  try simp only [Exit.jump]
                  go_ret
                  subst hres
                  exact ⟨rfl, ⟨b1, HZ.out.1, hbz⟩, HKZ.out.trans HZ.out.2⟩
                · have hb2S : b1 + 1 ≤ S.size := by
                    rcases hasM_len hx120 with h | h
                    · rw [← HSZ.out] at h; exact h
                    · cases h
                  have hbz := hb2S
                  have hxl : X.data.toList = (S.data.toList.drop (b + 2)).take 2 := by
                    have := HPQ.out
                    have := HB1.out
                    rw [← hX, Lib.extract_data, show m1 = b + 2 by omega, List.take_eq_take_iff, List.length_drop, ← HSZ.out]
                    omega
                  have HXL := Lib.hid hxl
                  have hm := HQ92.out
                  rw [hx34, hx92, hx120] at hm
                  simp only [Bool.false_eq_true, if_false, if_true] at hm
                  have HM := Lib.hid hm
                  clear hm hxl hX HQ92
                  cases hu : unpairM ((S.data.toList.drop (b + 2)).take 2) with
                  | none =>
                    have hres : res = .bad := by have h := HM.out; rw [hu] at h; exact h.symm
                    go_wp2_with (first
                      | (go_at_call 68; refine (unpairN hes).mono ?_; rintro e w5 ⟨a5, n5, cap5, ok, bs, rfl, hbl, hrow5, hB5, hcase⟩
                         have hok : ok = false := by
                           rcases hcase with ⟨h, _⟩ | ⟨_, h⟩
                           · exact h
                           · rw [HXL.out, hu] at h; cases h
                         subst hok
                         have HRF := Lib.hid (show Rdr w5 rb S b1 deep false from HRE.out.below hB5)
                         have HBF := Lib.hid (HBE.out.trans (hB5.mono HBE.out.size))
                         have HF120 := Lib.hid (hasT (t := ⟨#[120]⟩) HRF.out hb1S hS (by decide) hx120)
                         clear hbl hrow5 hB5 hcase)
                      | (go_at_call 63; with_reducible refine HF120.out.mono ?_; rintro e w6 ⟨rfl, h6, k6⟩
                         have HRZ := Lib.hid h6
                         have HKZ := Lib.hid ((HKW.out.calm HBF.out).trans k6)
                         clear h6 k6))
                    go_step3
                    refine ⟨rfl, ?_⟩
                    have c3z := HRZ.out.cell 3 rfl
                    have f3z := HRZ.out.free 3 (by simp)
                    have HZ := Lib.hid (rdr_bad HRZ.out)
                    go_wp2_with fail
                    try simp only [Exit.jump]
                    go_ret
                    subst hres
                    exact ⟨rfl, ⟨b1 + 1, HZ.out.1, hbz⟩, HKZ.out.trans HZ.out.2⟩
                  | some bs0 =>
                    have hlu := unpairM_len _ hu
                    by_cases hl1 : bs0.length = 1
                    · obtain ⟨x, rfl⟩ := List.length_eq_one_iff.1 hl1
                      have hb4S : b + 4 ≤ S.size := by
                        rw [List.length_take, List.length_drop, ← HSZ.out] at hlu
                        simp only [List.length_cons, List.length_nil] at hlu
                        omega
                      clear hlu hl1
                      obtain ⟨b4, hb4⟩ : ∃ b4, b4 = b1 + 3 := ⟨_, rfl⟩
                      replace hb4S : b4 ≤ S.size := by have := HB1.out; omega
                      have HB4 := Lib.hid hb4
                      clear hb4
                      by_cases hxr : 32 ≤ x ∧ x ≤ 126
                      · have hres : res = .bad := by have h := HM.out; rw [hu] at h; simp only [if_pos hxr] at h; exact h.symm
                        have hx32 : (32 : Int) ≤ (x.toNat : Int) := by have := UInt8.le_iff_toNat_le.1 hxr.1; have h2 : (32 : UInt8).toNat = 32 := rfl; omega
                        have hx126 : (x.toNat : Int) ≤ 126 := by have := UInt8.le_iff_toNat_le.1 hxr.2; have h2 : (126 : UInt8).toNat = 126 := rfl; omega
                        go_wp2_with (first
                          | (go_at_call 68; refine (unpairN hes).mono ?_; rintro e w5 ⟨a5, n5, cap5, ok, bs, rfl, hbl, hrow5, hB5, hcase⟩
                             have hok : ok = true ∧ n5 = 1 ∧ bs = [x] := by
                               rcases hcase with ⟨_, h⟩ | ⟨h, h2⟩
                               · rw [HXL.out, hu] at h; cases h
                               · rw [HXL.out, hu] at h2; cases h2; exact ⟨h, hbl.symm, rfl⟩
                             obtain ⟨rfl, rfl, rfl⟩ := hok
                             obtain ⟨bk, off, rfl⟩ : ∃ bk off, a5 = some ⟨bk, off, none⟩ := by
                               rcases hrow5.rd.2.2.2 with ⟨h, _⟩ | ⟨bk, off, rfl, _, _⟩
                               · omega
                               · exact ⟨bk, off, rfl⟩
                             have HRF := Lib.hid (show Rdr w5 rb S b1 deep false from HRE.out.below hB5)
                             have HBF := Lib.hid (HBE.out.trans (hB5.mono HBE.out.size))
                             have HROW5 := Lib.hid hrow5
                             have HF120 := Lib.hid (hasT (t := ⟨#[120]⟩) HRF.out hb1S hS (by decide) hx120)
                             clear hbl hrow5 hB5 hcase)
                          | (go_at_call 63; with_reducible refine HF120.out.mono ?_; rintro e w6 ⟨rfl, h6, k6⟩
                             have HRZ := Lib.hid h6
                             have HKZ := Lib.hid ((HKW.out.calm HBF.out).trans k6)
                             have HROW6 := Lib.hid (HROW5.out.keep1 k6 (Nat.lt_of_lt_of_le HRE.out.lt (Nat.le_refl _)))
                             have cx : w6.cell? ⟨bk, off, none⟩ = some (.int .u8 (x.toNat : Int)) := by
                               rcases HROW6.out.rd.2.2.2 with ⟨h, _⟩ | ⟨bk', off', he, _, hc⟩
                               · omega
                               · cases he; exact hc 0 (by simp [B8])
                             clear h6 k6))
                        go_step3
                        refine ⟨rfl, ?_⟩
                        have c3z := HRZ.out.cell 3 rfl
                        have f3z := HRZ.out.free 3 (by simp)
                        have HZ := Lib.hid (rdr_bad HRZ.out)
                        go_wp2_with fail
                        try simp only [Exit.jump]
                        go_ret
                        subst hres
                        exact ⟨rfl, ⟨b1 + 1, HZ.out.1, hbz⟩, HKZ.out.trans HZ.out.2⟩
                      · have hqn : quotedM S.data.toList f9 b4 (o ++ [x]) = res := by have h := HM.out; rw [hu] at h; simp only [if_neg hxr] at h; rw [HB4.out, HB1.out]; exact h
                        have HQN := Lib.hid hqn
                        have HL := Lib.hid HKW.out.size
                        have h1n : n + 1 ≤ b4 := by have := HB1.out; have := HB4.out; omega
                        have hl9 : n + 1 ≤ 1000000000000 := by omega
                        have HOL1 := Lib.hid (show (o ++ [x]).length = n + 1 by rw [List.length_append, HOL.out]; rfl)
                        have hb14 : ((b1 + 1 : Nat) : Int) + 2 = (b4 : Int) := by have := HB4.out; omega
                        have hb14' : (b1 : Int) + 1 + 2 = (b4 : Int) := by have := HB4.out; omega
                        clear hqn
                        by_cases hx32 : (32 : Int) ≤ (x.toNat : Int)
                        · have hx126 : ¬ (x.toNat : Int) ≤ 126 := by
                            intro h
                            have h2 : (126 : UInt8).toNat = 126 := rfl
                            have h3 : (32 : UInt8).toNat = 32 := rfl
                            exact hxr ⟨UInt8.le_iff_toNat_le.2 (by omega), UInt8.le_iff_toNat_le.2 (by omega)⟩
                          go_wp2_with (first
                            | (go_at_call 68; refine (unpairN hes).mono ?_; rintro e w5 ⟨a5, n5, cap5, ok, bs, rfl, hbl, hrow5, hB5, hcase⟩
                               have hok : ok = true ∧ n5 = 1 ∧ bs = [x] := by
                                 rcases hcase with ⟨_, h⟩ | ⟨h, h2⟩
                                 · rw [HXL.out, hu] at h; cases h
                                 · rw [HXL.out, hu] at h2; cases h2; exact ⟨h, hbl.symm, rfl⟩
                               obtain ⟨rfl, rfl, rfl⟩ := hok
                               obtain ⟨bk, off, rfl⟩ : ∃ bk off, a5 = some ⟨bk, off, none⟩ := by
                                 rcases hrow5.rd.2.2.2 with ⟨h, _⟩ | ⟨bk, off, rfl, _, _⟩
                                 · omega
                                 · exact ⟨bk, off, rfl⟩
                               have HRF := Lib.hid (show Rdr w5 rb S b1 deep false from HRE.out.below hB5)
                               have HBF := Lib.hid (HBE.out.trans (hB5.mono HBE.out.size))
                               have HROW5 := Lib.hid hrow5
                               have HF120 := Lib.hid (hasT (t := ⟨#[120]⟩) HRF.out hb1S hS (by decide) hx120)
                               clear hbl hrow5 hB5 hcase)
                            | (go_at_call 63; with_reducible refine HF120.out.mono ?_; rintro e w6 ⟨rfl, h6, k6⟩
                               have HRZ := Lib.hid h6
                               have HKZ := Lib.hid ((HKW.out.calm HBF.out).trans k6)
                               have HROW6 := Lib.hid (HROW5.out.keep1 k6 (Nat.lt_of_lt_of_le HRE.out.lt (Nat.le_refl _)))
                               have cx : w6.cell? ⟨bk, off, none⟩ = some (.int .u8 (x.toNat : Int)) := by
                                 rcases HROW6.out.rd.2.2.2 with ⟨h, _⟩ | ⟨bk', off', he, _, hc⟩
                                 · omega
                                 · cases he; exact hc 0 (by simp [B8])
                               have HRW6 := Lib.hid ((HRW.out.below HBF.out).keep1 k6 hrb)
                               have HL2 := Lib.hid (Nat.le_trans HBF.out.size k6.size)
                               have HS9 := Lib.hid (Src.ofRd (P := Tryd.prog) Tryd.underlying53 HROW6.out.rd (B8_one [x]))
                               clear h6 k6)
                            | (at_builtin; refine wpList_append_row rfl _ _ 53 53 rfl 5 i0 (.int .u8 0) 1 1 Tryd.underlying53 hi hy0 hy1 hy2 rfl rfl HRW6.out 1 _ HS9.out (by unfold maxLen; omega) (by omega) (by have := HL.out; have := HL2.out; omega) ?_; intro a4 c4 w4 hrow hgr hbk4; have HR4 := Lib.hid hrow; have HG4 := Lib.hid hgr; clear hrow hgr hbk4
                               have HR7 := Lib.hid (q_rdr HRZ.out HRW6.out hrb HG4.out)
                               have c1z := HR7.out.cell 1 rfl
                               have f1z := HR7.out.free 1 (by simp)))
                          have hfin := q_next2 (b' := b4) HRZ.out HKZ.out HRW6.out hrb (by rw [B8_append]; exact HR4.out) HG4.out HOL1.out h1n hb4S HQN.out
                          exact ⟨⟨f9, hfin⟩, Nat.lt_of_le_of_lt (least_le hfin) (by have := HLE.out; omega)⟩
                        · go_wp2_with (first
                            | (go_at_call 68; refine (unpairN hes).mono ?_; rintro e w5 ⟨a5, n5, cap5, ok, bs, rfl, hbl, hrow5, hB5, hcase⟩
                               have hok : ok = true ∧ n5 = 1 ∧ bs = [x] := by
                                 rcases hcase with ⟨_, h⟩ | ⟨h, h2⟩
                                 · rw [HXL.out, hu] at h; cases h
                                 · rw [HXL.out, hu] at h2; cases h2; exact ⟨h, hbl.symm, rfl⟩
                               obtain ⟨rfl, rfl, rfl⟩ := hok
                               obtain ⟨bk, off, rfl⟩ : ∃ bk off, a5 = some ⟨bk, off, none⟩ := by
                                 rcases hrow5.rd.2.2.2 with ⟨h, _⟩ | ⟨bk, off, rfl, _, _⟩
                                 · omega
                                 · exact ⟨bk, off, rfl⟩
                               have HRF := Lib.hid (show Rdr w5 rb S b1 deep false from HRE.out.below hB5)
                               have HBF := Lib.hid (HBE.out.trans (hB5.mono HBE.out.size))
                               have HROW5 := Lib.hid hrow5
                               have HF120 := Lib.hid (hasT (t := ⟨#[120]⟩) HRF.out hb1S hS (by decide) hx120)
                               clear hbl hrow5 hB5 hcase)
                            | (go_at_call 63; with_reducible refine HF120.out.mono ?_; rintro e w6 ⟨rfl, h6, k6⟩
                               have HRZ := Lib.hid h6
                               have HKZ := Lib.hid ((HKW.out.calm HBF.out).trans k6)
                               have HROW6 := Lib.hid (HROW5.out.keep1 k6 (Nat.lt_of_lt_of_le HRE.out.lt (Nat.le_refl _)))
                               have cx : w6.cell? ⟨bk, off, none⟩ = some (.int .u8 (x.toNat : Int)) := by
                                 rcases HROW6.out.rd.2.2.2 with ⟨h, _⟩ | ⟨bk', off', he, _, hc⟩
                                 · omega
                                 · cases he; exact hc 0 (by simp [B8])
                               have HRW6 := Lib.hid ((HRW.out.below HBF.out).keep1 k6 hrb)
                               have HL2 := Lib.hid (Nat.le_trans HBF.out.size k6.size)
                               have HS9 := Lib.hid (Src.ofRd (P := Tryd.prog) Tryd.underlying53 HROW6.out.rd (B8_one [x]))
                               clear h6 k6)
                            | (at_builtin; refine wpList_append_row rfl _ _ 53 53 rfl 5 i0 (.int .u8 0) 1 1 Tryd.underlying53 hi hy0 hy1 hy2 rfl rfl HRW6.out 1 _ HS9.out (by unfold maxLen; omega) (by omega) (by have := HL.out; have := HL2.out; omega) ?_; intro a4 c4 w4 hrow hgr hbk4; have HR4 := Lib.hid hrow; have HG4 := Lib.hid hgr; clear hrow hgr hbk4
                               have HR7 := Lib.hid (q_rdr HRZ.out HRW6.out hrb HG4.out)
                               have c1z := HR7.out.cell 1 rfl
                               have f1z := HR7.out.free 1 (by simp)))
                          have hfin := q_next2 (b' := b4) HRZ.out HKZ.out HRW6.out hrb (by rw [B8_append]; exact HR4.out) HG4.out HOL1.out h1n hb4S HQN.out
                          exact ⟨⟨f9, hfin⟩, Nat.lt_of_le_of_lt (least_le hfin) (by have := HLE.out; omega)⟩
                    · have hres : res = .bad := by
                        have h := HM.out; rw [hu] at h
                        match bs0, hl1, h with
                        | [], _, h => exact h.symm
                        | [x], hl1, _ => exact absurd rfl hl1
                        | x :: y :: r, _, h => exact h.symm
                      go_wp2_with (first
                        | (go_at_call 68; refine (unpairN hes).mono ?_; rintro e w5 ⟨a5, n5, cap5, ok, bs, rfl, hbl, hrow5, hB5, hcase⟩
                           have hok : ok = true ∧ ¬ (n5 : Int) = 1 := by
                             rcases hcase with ⟨_, h⟩ | ⟨h, h2⟩
                             · rw [HXL.out, hu] at h; cases h
                             · rw [HXL.out, hu] at h2; cases h2; exact ⟨h, by omega⟩
                           obtain ⟨rfl, hn5⟩ := hok
                           have hn5b : ((n5 : Int) == 1) = false := by simpa using hn5
                           have HRF := Lib.hid (show Rdr w5 rb S b1 deep false from HRE.out.below hB5)
                           have HBF := Lib.hid (HBE.out.trans (hB5.mono HBE.out.size))
                           have HF120 := Lib.hid (hasT (t := ⟨#[120]⟩) HRF.out hb1S hS (by decide) hx120)
                           clear hbl hrow5 hB5 hcase)
                        | (go_at_call 63; with_reducible refine HF120.out.mono ?_; rintro e w6 ⟨rfl, h6, k6⟩
                           have HRZ := Lib.hid h6
                           have HKZ := Lib.hid ((HKW.out.calm HBF.out).trans k6)
                           clear h6 k6))
                      go_step3
                      refine ⟨rfl, ?_⟩
                      have c3z := HRZ.out.cell 3 rfl
                      have f3z := HRZ.out.free 3 (by simp)
                      have HZ := Lib.hid (rdr_bad HRZ.out)
                      go_wp2_with fail
                      try simp only [Exit.jump]
                      go_ret
                      subst hres
                      exact ⟨rfl, ⟨b1 + 1, HZ.out.1, hbz⟩, HKZ.out.trans HZ.out.2⟩
          · have hc92 : ¬ c = 92 := fun e => h92 (by rw [e]; rfl)
            have hs92 : ((c.toNat : Int) == 92) = false := by simp; omega
            have hqn : quotedM S.data.toList f9 b1 (o ++ [c]) = res := by
              rw [← HQ.out, HGC.out, if_neg hc34, if_neg (by rw [UInt8.lt_iff_toNat_lt, UInt8.lt_iff_toNat_lt]; exact hrg), if_pos hc92, HB1.out]
            have HQN := Lib.hid hqn
            have hs34 : ((c.toNat : Int) == 34) = false := by simp; omega
            have HL := Lib.hid HKW.out.size
            have hl9 : n + 1 ≤ 1000000000000 := by omega
            have HOL1 := Lib.hid (show (o ++ [c]).length = n + 1 by rw [List.length_append, HOL.out]; rfl)
            have HN1 := Lib.hid (show n + 1 ≤ b1 by rw [HB1.out]; omega)
            clear hqn hrg hc34 hc92 HQ HGC
            generalize hwb : wa.setCell ⟨rb, 1, none⟩ (.int .i64 (b1 : Nat)) = wb at *
            have HR9 := fun o => Lib.hid (HRW.out.alloc o)
            have HS9 := Lib.hid (Src.oneAt (P := Tryd.prog) (w := wb) (tx := 53) Tryd.underlying53 (.int .u8 (c.toNat : Int)) 5 rfl (g := wb.heap.size) rfl)
            go_wp2_with (at_builtin; refine wpList_append_row rfl _ _ 53 53 rfl 5 i0 (.int .u8 0) 1 1 Tryd.underlying53 hi hy0 hy1 hy2 rfl rfl (HR9 _).out 1 _ HS9.out (by unfold maxLen; omega) (by omega) (by have := HL.out; simp; omega) ?_; intro a4 c4 w4 hrow hgr hbk4; have HR4 := Lib.hid hrow; have HG4 := Lib.hid hgr; clear hrow hgr hbk4)
            have hfin : QRel rb S deep w res f9 (.slice a4 (n + 1) c4) w4 := q_next HRB.out HKW.out HRW.out hrb ((Below.refl _ _).alloc (Nat.le_refl _) _) (by rw [B8_append]; exact HR4.out) HG4.out HOL1.out HN1.out hb1S HQN.out
            exact ⟨⟨f9, hfin⟩, Nat.lt_of_le_of_lt (least_le hfin) (by have := HLE.out; omega)⟩
    · have h1i : ¬ (b : Int) < (S.size : Int) := by omega
      have hres : res = .bad := by rw [← HQ.out]; exact quotedM_end (by rw [List.getElem?_eq_none]; omega)
      have HP := fun m => rdr_bad (HR.out.drewN m)
      clear hsz
      go_wp2_with fail
      go_quiet (fail)
      go_wp2_with fail
      go_step3
      go_wp2_with fail
      try simp only [Exit.jump]
      go_ret
      subst hres
      exact ⟨rfl, ⟨b, (HP _).1, by omega⟩, (HK.out.calm (below_drewN _ _ _)).trans (HP _).2⟩
end Go.Proofs.YtofpdhkdnbnobaaDoor
