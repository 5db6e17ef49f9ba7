/-
  The document's reader: a quoted text (walk). Not a statement of the seat.
-/
import Derived.Test.YtofpdhkdnbnobaaDoorRQuotP
namespace Go.Proofs.YtofpdhkdnbnobaaDoor
open Go.RowKit

/-- what the document's quoted comes to, well or not at its start -/
def RQP (rb : Nat) (S : ByteArray) (a D N : Nat) (bad : Bool) (f : Nat) (w : World) (e : Ending) (w' : World) : Prop :=
  ∃ (t : Bs) (bad' : Bool) (a' : Nat), e = .returned (.string ⟨t.toArray⟩) ∧ Rr w' rb S a' D N bad' ∧ a' ≤ S.size + 1 ∧ Kept (N1 rb) w w' ∧
    ((bad' = false ∧ bad = false ∧ a' ≤ S.size ∧ hasM S.data.toList a [34] = true ∧ quotedM S.data.toList f (a + 1) [] = .ok t a') ∨
      (bad' = true ∧ (bad = true ∨ hasM S.data.toList a [34] = false ∨ (hasM S.data.toList a [34] = true ∧ quotedM S.data.toList f (a + 1) [] = .bad))))
/-- between two rounds -/
def QR (rb : Nat) (S : ByteArray) (D N : Nat) (w : World) (res : Res Bs) (f : Nat) (t : Value) (wr : World) : Prop :=
  ∃ l n cap, t = .slice l n cap ∧ Kept (N1 rb) w wr ∧
    ((∃ a o, o.length = n ∧ n ≤ a ∧ a ≤ S.size ∧ Row w.heap.size wr 1 l n cap (B8 o) ∧ Rr wr rb S a D N false ∧ quotedM S.data.toList f a o = res) ∨ (∃ a, a ≤ S.size + 1 ∧ Rr wr rb S a D N true ∧ res = .bad))

theorem B8_snoc (o : Bs) (c : UInt8) : B8 (o ++ [c]) = B8 o ++ [Value.int .u8 (c.toNat : Int)] := by simp [B8]
theorem nextC {rb a D N c : Nat} {S : ByteArray} {bad : Bool} {w : World} (h : Rr w rb S a D N bad) (hc : c = (nx S.data.toList a).toNat) :
    Calls Tryd.prog 87 #[.pointer (some ⟨rb, 0, none⟩)] w (fun e w' => e = .returned (.int .u8 (c : Nat)) ∧ Rr w' rb S a D N bad ∧ Kept (N1 rb) w w') := by
  subst hc
  exact nextK h
theorem nextL {rb a D N : Nat} {z : Int} {S : ByteArray} {bad : Bool} {w : World} (h : Rr w rb S a D N bad) (hc : (((nx S.data.toList a).toNat : Nat) : Int) = z) :
    Calls Tryd.prog 87 #[.pointer (some ⟨rb, 0, none⟩)] w (fun e w' => e = .returned (.int .u8 z) ∧ Rr w' rb S a D N bad ∧ Kept (N1 rb) w w') := by
  subst hc
  exact nextK h
theorem nx_lt {S : ByteArray} {a : Nat} (h : nx S.data.toList a ≠ 0) : a < S.size := by
  rcases Nat.lt_or_ge a S.size with h1 | h1
  · exact h1
  · exact absurd (nx_end (by rw [← Lib.size_eq]; exact h1)) h
theorem has_end {S t : ByteArray} {a : Nat} (ha : a ≤ S.size) (h : hasM S.data.toList a t.data.toList = true) : a + t.size ≤ S.size := hasM_end ha h

section
variable {rb p p' D N n n' cap c4 f : Nat} {S : ByteArray} {res : Res Bs} {w wr wb wx w4 : World} {l a4 : Option Addr} {xs : List Value} {o : Bs}
theorem ru_next (hK : Kept (N1 rb) w wr) (hKb : Kept (N1 rb) wr wb) (hR4 : Rr w4 rb S p D N false) (hRow : Row w.heap.size wb 1 l n cap xs) (hrb : rb < w.heap.size) (hx : Below wb.heap.size wb wx)
    (hrow : Row w.heap.size w4 1 a4 n' c4 (B8 o)) (hgr : wx.grownBy w4 (blockOf l)) (ho : o.length = n') (hn : n' ≤ p') (hp : p' ≤ S.size) (hq : quotedM S.data.toList f p' o = res) :
    QR rb S D N w res f (.slice a4 n' c4) (w4.setCell ⟨rb, 1, none⟩ (.int .i64 (p' : Nat))) := by
  have hl : ∀ x, blockOf l = some x → w.heap.size ≤ x := fun x e => (hRow.lt x e).1
  obtain ⟨h1, h2⟩ := rr_go (a' := p') hR4
  exact ⟨a4, n', c4, rfl, (((hK.trans hKb).calm hx).grown hgr (fun x e hlt => by have := hl x e; omega)).trans h2, .inl ⟨p', o, ho, hn, hp, hrow.keep1 h2 hrb, h1, hq⟩⟩
theorem ru_next0 (hK : Kept (N1 rb) w wr) (hKb : Kept (N1 rb) wr wb) (hR4 : Rr w4 rb S p D N false) (hRow : Row w.heap.size wb 1 l n cap xs) (hx : Below wb.heap.size wb wx)
    (hrow : Row w.heap.size w4 1 a4 n' c4 (B8 o)) (hgr : wx.grownBy w4 (blockOf l)) (ho : o.length = n') (hn : n' ≤ p) (hp : p ≤ S.size) (hq : quotedM S.data.toList f p o = res) :
    QR rb S D N w res f (.slice a4 n' c4) w4 := by
  have hl : ∀ x, blockOf l = some x → w.heap.size ≤ x := fun x e => (hRow.lt x e).1
  exact ⟨a4, n', c4, rfl, ((hK.trans hKb).calm hx).grown hgr (fun x e hlt => by have := hl x e; omega), .inl ⟨p, o, ho, hn, hp, hrow, hR4, hq⟩⟩
theorem ru_bad (hK : Kept (N1 rb) w wr) (hKb : Kept (N1 rb) wr wb) (hR4 : Rr w4 rb S p D N true) (hRow : Row w.heap.size wb 1 l n cap xs) (hx : Below wb.heap.size wb wx)
    (hgr : wx.grownBy w4 (blockOf l)) (hp : p' ≤ S.size + 1) (hres : res = .bad) : QR rb S D N w res 0 (.slice a4 n' c4) (w4.setCell ⟨rb, 1, none⟩ (.int .i64 (p' : Nat))) := by
  have hl : ∀ x, blockOf l = some x → w.heap.size ≤ x := fun x e => (hRow.lt x e).1
  obtain ⟨h1, h2⟩ := rr_go (a' := p') hR4
  exact ⟨a4, n', c4, rfl, (((hK.trans hKb).calm hx).grown hgr (fun x e hlt => by have := hl x e; omega)).trans h2, .inr ⟨p', hp, h1, hres⟩⟩
theorem ru_bad0 (hK : Kept (N1 rb) w wr) (hKb : Kept (N1 rb) wr wb) (hR4 : Rr w4 rb S p D N true) (hRow : Row w.heap.size wb 1 l n cap xs) (hx : Below wb.heap.size wb wx)
    (hgr : wx.grownBy w4 (blockOf l)) (hp : p ≤ S.size + 1) (hres : res = .bad) : QR rb S D N w res 0 (.slice a4 n' c4) w4 := by
  have hl : ∀ x, blockOf l = some x → w.heap.size ≤ x := fun x e => (hRow.lt x e).1
  exact ⟨a4, n', c4, rfl, ((hK.trans hKb).calm hx).grown hgr (fun x e hlt => by have := hl x e; omega), .inr ⟨p, hp, hR4, hres⟩⟩
end

set_option maxRecDepth 100000 in
theorem rquotedB {rb a D N f : Nat} {S : ByteArray} {w : World} {bad : Bool} (h : Rr w rb S a D N bad) (ha : a ≤ S.size) (hS : S.size ≤ 1000000000000) (hv : bad = true ∨ hasM S.data.toList a [34] = false) :
    Calls Tryd.prog 91 #[.pointer (some ⟨rb, 0, none⟩)] w (RQP rb S a D N bad f w) := by
  by_cases hm : hasM S.data.toList a [34] = true
  · have hb : bad = true := hv.resolve_right (by rw [hm]; simp)
    subst hb
    have he : a + 1 ≤ S.size := hasM_end (t := ⟨#[34]⟩) ha hm
    have HC := Lib.hid (wordT (t := ⟨#[34]⟩) h (by omega) hS (by decide) (by decide) hm)
    clear h
    go_enter Tryd.func91, Tryd.ntmps91
    go_wp2_with (go_at_call 88; (with_reducible refine HC.out.mono ?_); rintro e w1 ⟨rfl, hR1, hK1⟩; have c4 := hR1.cell 4 rfl)
    go_loopw [3] (fun t wr => t = .slice none 0 0 ∧ wr = w1) (fun _ _ => 0)
    case atStart => exact ⟨rfl, rfl⟩
    case round =>
      obtain ⟨rfl, rfl⟩ := hrel
      go_wp2_with fail
      go_ret
      exact ⟨[], true, _, rfl, hR1, by show a + 1 ≤ _; omega, hK1, .inr ⟨rfl, .inl rfl⟩⟩
  · have hm2 : hasM S.data.toList a [34] = false := by simpa using hm
    have HC := Lib.hid (wordF (t := ⟨#[34]⟩) h (by omega) hS (by decide) (by decide) hm2)
    clear h
    go_enter Tryd.func91, Tryd.ntmps91
    go_wp2_with (go_at_call 88; (with_reducible refine HC.out.mono ?_); rintro e w1 ⟨rfl, hR1, hK1⟩; have c4 := hR1.cell 4 rfl; have f4 := hR1.free 4 (by simp))
    go_ret
    exact ⟨[], true, _, rfl, (rr_bad hR1).1, by omega, hK1.trans (rr_bad hR1).2, .inr ⟨rfl, .inr (.inl hm2)⟩⟩

set_option maxHeartbeats 8000000 in
set_option maxRecDepth 100000 in
theorem rquotedT {rb a D N f : Nat} {S : ByteArray} {w : World} (h : Rr w rb S a D N false) (ha : a ≤ S.size) (hS : S.size ≤ 1000000000000) (hv : hasM S.data.toList a [34] = true)
    (ho : quotedM S.data.toList f (a + 1) [] ≠ .out) : Calls Tryd.prog 91 #[.pointer (some ⟨rb, 0, none⟩)] w (RQP rb S a D N false f w) := by
  obtain ⟨i0, hi, hy0, hy1, hy2⟩ := info_parts byteInfo
  have hrb : rb < w.heap.size := h.lt
  have ha1 : a + 1 ≤ S.size := hasM_end (t := ⟨#[34]⟩) ha hv
  generalize hq : quotedM S.data.toList f (a + 1) [] = res at *
  suffices hmain : Calls Tryd.prog 91 #[.pointer (some ⟨rb, 0, none⟩)] w (fun e w' => ∃ (t : Bs) (bad' : Bool) (a' : Nat), e = .returned (.string ⟨t.toArray⟩) ∧ Rr w' rb S a' D N bad' ∧ a' ≤ S.size + 1 ∧ Kept (N1 rb) w w' ∧
      ((bad' = false ∧ a' ≤ S.size ∧ res = .ok t a') ∨ (bad' = true ∧ res = .bad))) by
    refine hmain.mono ?_
    rintro e w' ⟨t, bad', a', h1, h2, h3, h4, h5⟩
    refine ⟨t, bad', a', h1, h2, h3, h4, ?_⟩
    rcases h5 with ⟨h5, h6, h7⟩ | ⟨h5, h6⟩
    · exact .inl ⟨h5, rfl, h6, hv, by rw [hq, h7]⟩
    · exact .inr ⟨h5, .inr (.inr ⟨hv, by rw [hq, h6]⟩)⟩
  have HO := Lib.hid ho
  have HQ := Lib.hid hq
  have HC := Lib.hid (wordT (t := ⟨#[34]⟩) h (by omega) hS (by decide) (by decide) hv)
  clear ho hq h hv
  go_enter Tryd.func91, Tryd.ntmps91
  go_wp2_with (go_at_call 88; (with_reducible refine HC.out.mono ?_); rintro e w1 ⟨rfl, hR1, hK1⟩)
  have H0 := Lib.hid (show ∃ f, QR rb S D N w res f (.slice none 0 0) w1 from ⟨f, none, 0, 0, rfl, hK1, .inl ⟨a + 1, [], rfl, by omega, ha1, Row.nil _ _ _, hR1, HQ.out⟩⟩)
  clear hR1 hK1 HQ HC
  go_loopw [3] (fun t wr => ∃ f, QR rb S D N w res f t wr) (fun t wr => least (fun f => QR rb S D N w res f t wr))
  case atStart => exact H0.out
  case round =>
    obtain ⟨f9, hf9, hle9⟩ : ∃ f, QR rb S D N w res f _ wr ∧ f ≤ least (fun f => QR rb S D N w res f _ wr) := ⟨_, least_spec hrel, Nat.le_refl _⟩
    have HLE := Lib.hid hle9
    obtain ⟨l, n, cap, rfl, hK, hmode⟩ := hf9
    clear hrel hle9 H0 ha ha1
    have HK := Lib.hid hK
    have HK0 := Lib.hid (Kept.refl (N1 rb) wr)
    clear hK
    rcases hmode with ⟨p, o, hol, hnp, hp, hrow, hR, hq⟩ | ⟨p, hp, hR, hres⟩
    · cases f9 with
      | zero => exact absurd hq.symm HO.out
      | succ f9 =>
      rw [quoted_step] at hq
      have c4 := hR.cell 4 rfl
      have HR0 := Lib.hid hR
      have HROW := Lib.hid hrow
      have HOL := Lib.hid hol
      have hp0 : p ≤ 4000000000000 := by omega
      clear hR hrow hol
      by_cases h34 : nx S.data.toList p = 34
      · rw [if_pos h34] at hq
        have hm : hasM S.data.toList p [34] = true := by rw [hasM_one (by decide), h34]; rfl
        have he : p + 1 ≤ S.size := hasM_end (t := ⟨#[34]⟩) hp hm
        have HHQ := Lib.hid hq
        have HC1 := Lib.hid (wordT (t := ⟨#[34]⟩) HR0.out (by omega) hS (by decide) (by decide) hm)
        clear h34 hq hm
        go_wp2_with (first
        | (go_at_call 88; (with_reducible refine HC1.out.mono ?_); rintro e w1 ⟨rfl, hRx, hKx⟩; have hRx : Rr w1 rb S (p + 1) D N false := hRx; have HR1 := Lib.hid hRx; have HK1 := Lib.hid (HK0.out.trans hKx); have hcv := conv_row (HROW.out.keep1 HK1.out hrb); clear hRx hKx))
        go_ret
        exact ⟨o, false, p + 1, rfl, HR1.out, by omega, HK.out.trans HK1.out, .inl ⟨rfl, he, HHQ.out.symm⟩⟩
      rw [if_neg h34] at hq
      have hm1 : hasM S.data.toList p [34] = false := by rw [hasM_one (by decide)]; simpa using h34
      by_cases h92 : nx S.data.toList p = 92 ∧ nx S.data.toList (p + 1) = 120
      · have hm2 : hasM S.data.toList p [92, 120] = true := by rw [hasM_cons (by decide), hasM_one (by decide), h92.1, h92.2]; rfl
        have he : p + 2 ≤ S.size := hasM_end (t := ⟨#[92, 120]⟩) hp hm2
        rw [if_pos h92] at hq
        obtain ⟨p2, hp2⟩ : ∃ p2, p2 = p + 2 := ⟨_, rfl⟩
        rw [← hp2] at hq he
        have HPN := Lib.hid hp2
        have HC1 := Lib.hid (wordF (t := ⟨#[34]⟩) HR0.out (by omega) hS (by decide) (by decide) hm1)
        clear h34 h92
        cases hx : rhexAt S.data.toList p2 with
        | none =>
          rw [hx] at hq
          simp only at hq
          have hres : res = .bad := hq.symm
          clear hq
          go_upto_region 11 with (first
            | (go_at_call 88; (with_reducible refine HC1.out.mono ?_); rintro e w1 ⟨rfl, hRx, hKx⟩; have HR1 := Lib.hid hRx; have HK1 := Lib.hid (HK0.out.trans hKx); have HC2 := Lib.hid (wordT (t := ⟨#[92, 120]⟩) HR1.out (by omega) hS (by decide) (by decide) hm2); clear hRx hKx)
            | (go_at_call 88; (with_reducible refine HC2.out.mono ?_); rintro e w2 ⟨rfl, hRx, hKx⟩; have hRx : Rr w2 rb S p2 D N false := by rw [HPN.out]; exact hRx
               have HR2 := Lib.hid hRx; have HK2 := Lib.hid (HK1.out.trans hKx); have HC3 := Lib.hid (rhex0 hRx (by omega) hx); clear hRx hKx)
            | (go_at_call 90; (with_reducible refine HC3.out.mono ?_); rintro e w3 ⟨rfl, hRx, hKx⟩; have HR3 := Lib.hid hRx; have HK3 := Lib.hid (HK2.out.trans hKx); have e4 := hRx.cell 4 rfl; have f4 := hRx.free 4 (by simp); clear hRx hKx))
          have HR99 := Lib.hid (rr_bad HR3.out).1
          have HK99 := Lib.hid (HK3.out.trans (rr_bad HR3.out).2)
          generalize w3.setCell ⟨rb, 4, none⟩ (.bool true) = w99 at *
          have HRW := Lib.hid HR99.out; have HKW := Lib.hid HK99.out; have HRX := Lib.hid (HROW.out.keep1 HK99.out hrb); have HR9 := fun o => Lib.hid (HRX.out.alloc o); have HLS := Lib.hid (show w.heap.size ≤ w99.heap.size from Nat.le_trans HK.out.size HK99.out.size); have HS9 := Lib.hid (Src.oneAt (P := Tryd.prog) (w := w99) (tx := 53) Tryd.underlying53 (.int .u8 0) 5 rfl (g := w99.heap.size) rfl)
          go_wp2_with (first
            | (at_builtin; refine wpList_append_row rfl _ _ 53 53 rfl 5 i0 (.int .u8 0) 1 1 Tryd.underlying53 hi hy0 hy1 hy2 rfl rfl (HR9 _).out 1 _ HS9.out (by unfold maxLen; omega) (by omega) (by have := HLS.out; simp; omega) ?_; intro a4 c4 w4 hrow hgr hbk4; have HG9 := Lib.hid hrow; have HG4 := Lib.hid hgr; have HRG := Lib.hid (rr_grown HRW.out HRX.out hrb ((Below.refl _ _).alloc (Nat.le_refl _) _) hgr).1; have d1 := HRG.out.cell 1 rfl; have g1 := HRG.out.free 1 (by simp); clear hrow hgr hbk4))
          have hfin : QR rb S D N w res 0 (.slice a4 (n + 1) c4) w4 := ru_bad0 HK.out HKW.out HRG.out HRX.out ((Below.refl _ _).alloc (Nat.le_refl _) _) HG4.out (by omega) hres
          exact ⟨⟨0, hfin⟩, Nat.lt_of_le_of_lt (least_le hfin) (by have := HLE.out; omega)⟩
        | some c =>
          rw [hx] at hq
          simp only at hq
          have he2 : p2 + 2 ≤ S.size := by
            unfold rhexAt at hx
            split at hx
            · rename_i h; rw [← Lib.size_eq] at h; exact h
            · cases hx
          obtain ⟨cc, hcc⟩ : ∃ cc, cc = c.toNat := ⟨_, rfl⟩
          have HCC := Lib.hid hcc
          have hxs := fun (wx : World) (h : Rr wx rb S p2 D N false) (h2 : p2 ≤ 4000000000000) => rhexS h h2 hx
          rw [← hcc] at hxs
          have HXS := Lib.hid hxs
          have hcl := c.toNat_lt
          rw [← hcc] at hcl
          clear hxs hx
          by_cases hin : 32 ≤ c ∧ c ≤ 126
          · rw [if_pos hin] at hq
            have hres : res = .bad := hq.symm
            have h32 : (32 : Int) ≤ (cc : Int) := by have := UInt8.le_iff_toNat_le.1 hin.1; have h : (32 : UInt8).toNat = 32 := rfl; omega
            have h126 : (cc : Int) ≤ 126 := by have := UInt8.le_iff_toNat_le.1 hin.2; have h : (126 : UInt8).toNat = 126 := rfl; omega
            clear hq hin hcc
            go_upto_region 11 with (first
              | (go_at_call 88; (with_reducible refine HC1.out.mono ?_); rintro e w1 ⟨rfl, hRx, hKx⟩; have HR1 := Lib.hid hRx; have HK1 := Lib.hid (HK0.out.trans hKx); have HC2 := Lib.hid (wordT (t := ⟨#[92, 120]⟩) HR1.out (by omega) hS (by decide) (by decide) hm2); clear hRx hKx)
              | (go_at_call 88; (with_reducible refine HC2.out.mono ?_); rintro e w2 ⟨rfl, hRx, hKx⟩; have hRx : Rr w2 rb S p2 D N false := by rw [HPN.out]; exact hRx
                 have HR2 := Lib.hid hRx; have HK2 := Lib.hid (HK1.out.trans hKx); have HC3 := Lib.hid (HXS.out _ hRx (by omega) ); clear hRx hKx)
              | (go_at_call 90; (with_reducible refine HC3.out.mono ?_); rintro e w3 ⟨rfl, hRx, hKx⟩; have HR3 := Lib.hid hRx; have HK3 := Lib.hid (HK2.out.trans hKx); have e4 := hRx.cell 4 rfl; have f4 := hRx.free 4 (by simp); clear hRx hKx))
            try simp only [h126, decide_true]
            have HR99 := Lib.hid (rr_bad HR3.out).1
            have HK99 := Lib.hid (HK3.out.trans (rr_bad HR3.out).2)
            generalize w3.setCell ⟨rb, 4, none⟩ (.bool true) = w99 at *
            have HRW := Lib.hid HR99.out; have HKW := Lib.hid HK99.out; have HRX := Lib.hid (HROW.out.keep1 HK99.out hrb); have HR9 := fun o => Lib.hid (HRX.out.alloc o); have HLS := Lib.hid (show w.heap.size ≤ w99.heap.size from Nat.le_trans HK.out.size HK99.out.size); have HS9 := Lib.hid (Src.oneAt (P := Tryd.prog) (w := w99) (tx := 53) Tryd.underlying53 (.int .u8 (cc : Nat)) 5 rfl (g := w99.heap.size) rfl)
            go_wp2_with (first
              | (at_builtin; refine wpList_append_row rfl _ _ 53 53 rfl 5 i0 (.int .u8 0) 1 1 Tryd.underlying53 hi hy0 hy1 hy2 rfl rfl (HR9 _).out 1 _ HS9.out (by unfold maxLen; omega) (by omega) (by have := HLS.out; simp; omega) ?_; intro a4 c4 w4 hrow hgr hbk4; have HG9 := Lib.hid hrow; have HG4 := Lib.hid hgr; have HRG := Lib.hid (rr_grown HRW.out HRX.out hrb ((Below.refl _ _).alloc (Nat.le_refl _) _) hgr).1; have d1 := HRG.out.cell 1 rfl; have g1 := HRG.out.free 1 (by simp); clear hrow hgr hbk4))
            have hfin : QR rb S D N w res 0 (.slice a4 (n + 1) c4) w4 := ru_bad0 HK.out HKW.out HRG.out HRX.out ((Below.refl _ _).alloc (Nat.le_refl _) _) HG4.out (by omega) hres
            exact ⟨⟨0, hfin⟩, Nat.lt_of_le_of_lt (least_le hfin) (by have := HLE.out; omega)⟩
          · rw [if_neg hin] at hq
            have hnn : ¬ (32 ≤ cc ∧ cc ≤ 126) := fun h => hin ⟨UInt8.le_iff_toNat_le.2 (by rw [← hcc]; exact h.1), UInt8.le_iff_toNat_le.2 (by rw [← hcc]; exact h.2)⟩
            have HHQ := Lib.hid (show quotedM S.data.toList f9 (p2 + 2) (o ++ [c]) = res by rw [hp2]; exact hq)
            clear hq hin hcc
            by_cases h32 : (32 : Int) ≤ (cc : Int)
            · have h126 : ¬ (cc : Int) ≤ 126 := by omega
              clear hnn
              go_upto_region 11 with (first
                | (go_at_call 88; (with_reducible refine HC1.out.mono ?_); rintro e w1 ⟨rfl, hRx, hKx⟩; have HR1 := Lib.hid hRx; have HK1 := Lib.hid (HK0.out.trans hKx); have HC2 := Lib.hid (wordT (t := ⟨#[92, 120]⟩) HR1.out (by omega) hS (by decide) (by decide) hm2); clear hRx hKx)
                | (go_at_call 88; (with_reducible refine HC2.out.mono ?_); rintro e w2 ⟨rfl, hRx, hKx⟩; have hRx : Rr w2 rb S p2 D N false := by rw [HPN.out]; exact hRx
                   have HR2 := Lib.hid hRx; have HK2 := Lib.hid (HK1.out.trans hKx); have HC3 := Lib.hid (HXS.out _ hRx (by omega) ); clear hRx hKx)
                | (go_at_call 90; (with_reducible refine HC3.out.mono ?_); rintro e w3 ⟨rfl, hRx, hKx⟩; have HR3 := Lib.hid hRx; have HK3 := Lib.hid (HK2.out.trans hKx); have e4 := hRx.cell 4 rfl; have f4 := hRx.free 4 (by simp); clear hRx hKx))
              rw [show decide ((cc : Int) ≤ 126) = false from decide_eq_false (by omega)]
              have HR99 := Lib.hid (rr_badF HR3.out).1
              have HK99 := Lib.hid (HK3.out.trans (rr_badF HR3.out).2)
              generalize w3.setCell ⟨rb, 4, none⟩ (.bool false) = w99 at *
              have HRW := Lib.hid HR99.out; have HKW := Lib.hid HK99.out; have HRX := Lib.hid (HROW.out.keep1 HK99.out hrb); have HR9 := fun o => Lib.hid (HRX.out.alloc o); have HLS := Lib.hid (show w.heap.size ≤ w99.heap.size from Nat.le_trans HK.out.size HK99.out.size); have HS9 := Lib.hid (Src.oneAt (P := Tryd.prog) (w := w99) (tx := 53) Tryd.underlying53 (.int .u8 (cc : Nat)) 5 rfl (g := w99.heap.size) rfl)
              go_wp2_with (first
                | (at_builtin; refine wpList_append_row rfl _ _ 53 53 rfl 5 i0 (.int .u8 0) 1 1 Tryd.underlying53 hi hy0 hy1 hy2 rfl rfl (HR9 _).out 1 _ HS9.out (by unfold maxLen; omega) (by omega) (by have := HLS.out; simp; omega) ?_; intro a4 c4 w4 hrow hgr hbk4; have HG9 := Lib.hid hrow; have HG4 := Lib.hid hgr; have HRG := Lib.hid (rr_grown HRW.out HRX.out hrb ((Below.refl _ _).alloc (Nat.le_refl _) _) hgr).1; have d1 := HRG.out.cell 1 rfl; have g1 := HRG.out.free 1 (by simp); clear hrow hgr hbk4))
              have hfin : QR rb S D N w res f9 (.slice a4 (n + 1) c4) w4 := ru_next0 (o := o ++ [c]) HK.out HKW.out HRG.out HRX.out ((Below.refl _ _).alloc (Nat.le_refl _) _) (by rw [B8_snoc, ← HCC.out]; exact HG9.out) HG4.out (by rw [List.length_append, HOL.out]; rfl) (by have := HPN.out; (try clear hw1); (try clear hw2); omega) he2 HHQ.out
              exact ⟨⟨f9, hfin⟩, Nat.lt_of_le_of_lt (least_le hfin) (by have := HLE.out; omega)⟩
            · clear hnn
              go_upto_region 11 with (first
                | (go_at_call 88; (with_reducible refine HC1.out.mono ?_); rintro e w1 ⟨rfl, hRx, hKx⟩; have HR1 := Lib.hid hRx; have HK1 := Lib.hid (HK0.out.trans hKx); have HC2 := Lib.hid (wordT (t := ⟨#[92, 120]⟩) HR1.out (by omega) hS (by decide) (by decide) hm2); clear hRx hKx)
                | (go_at_call 88; (with_reducible refine HC2.out.mono ?_); rintro e w2 ⟨rfl, hRx, hKx⟩; have hRx : Rr w2 rb S p2 D N false := by rw [HPN.out]; exact hRx
                   have HR2 := Lib.hid hRx; have HK2 := Lib.hid (HK1.out.trans hKx); have HC3 := Lib.hid (HXS.out _ hRx (by omega) ); clear hRx hKx)
                | (go_at_call 90; (with_reducible refine HC3.out.mono ?_); rintro e w3 ⟨rfl, hRx, hKx⟩; have HR3 := Lib.hid hRx; have HK3 := Lib.hid (HK2.out.trans hKx); have e4 := hRx.cell 4 rfl; have f4 := hRx.free 4 (by simp); clear hRx hKx))
              have HR99 := Lib.hid (rr_badF HR3.out).1
              have HK99 := Lib.hid (HK3.out.trans (rr_badF HR3.out).2)
              generalize w3.setCell ⟨rb, 4, none⟩ (.bool false) = w99 at *
              have HRW := Lib.hid HR99.out; have HKW := Lib.hid HK99.out; have HRX := Lib.hid (HROW.out.keep1 HK99.out hrb); have HR9 := fun o => Lib.hid (HRX.out.alloc o); have HLS := Lib.hid (show w.heap.size ≤ w99.heap.size from Nat.le_trans HK.out.size HK99.out.size); have HS9 := Lib.hid (Src.oneAt (P := Tryd.prog) (w := w99) (tx := 53) Tryd.underlying53 (.int .u8 (cc : Nat)) 5 rfl (g := w99.heap.size) rfl)
              go_wp2_with (first
                | (at_builtin; refine wpList_append_row rfl _ _ 53 53 rfl 5 i0 (.int .u8 0) 1 1 Tryd.underlying53 hi hy0 hy1 hy2 rfl rfl (HR9 _).out 1 _ HS9.out (by unfold maxLen; omega) (by omega) (by have := HLS.out; simp; omega) ?_; intro a4 c4 w4 hrow hgr hbk4; have HG9 := Lib.hid hrow; have HG4 := Lib.hid hgr; have HRG := Lib.hid (rr_grown HRW.out HRX.out hrb ((Below.refl _ _).alloc (Nat.le_refl _) _) hgr).1; have d1 := HRG.out.cell 1 rfl; have g1 := HRG.out.free 1 (by simp); clear hrow hgr hbk4))
              have hfin : QR rb S D N w res f9 (.slice a4 (n + 1) c4) w4 := ru_next0 (o := o ++ [c]) HK.out HKW.out HRG.out HRX.out ((Below.refl _ _).alloc (Nat.le_refl _) _) (by rw [B8_snoc, ← HCC.out]; exact HG9.out) HG4.out (by rw [List.length_append, HOL.out]; rfl) (by have := HPN.out; (try clear hw1); (try clear hw2); omega) he2 HHQ.out
              exact ⟨⟨f9, hfin⟩, Nat.lt_of_le_of_lt (least_le hfin) (by have := HLE.out; omega)⟩
      by_cases h9 : nx S.data.toList p = 92
      · have hn120 : ¬ nx S.data.toList (p + 1) = 120 := fun h => h92 ⟨h9, h⟩
        have hm2 : hasM S.data.toList p [92, 120] = false := by rw [hasM_cons (by decide), hasM_one (by decide)]; simp [hn120]
        have hm3 : hasM S.data.toList p [92] = true := by rw [hasM_one (by decide), h9]; rfl
        have he : p + 1 ≤ S.size := hasM_end (t := ⟨#[92]⟩) hp hm3
        rw [if_neg h92, if_pos h9] at hq
        obtain ⟨p1, hp1⟩ : ∃ p1, p1 = p + 1 := ⟨_, rfl⟩
        obtain ⟨p2, hp2⟩ : ∃ p2, p2 = p1 + 1 := ⟨_, rfl⟩
        rw [← hp1] at hq he
        rw [show p + 2 = p2 by omega] at hq
        have HPN := Lib.hid (show p1 = p + 1 ∧ p2 = p1 + 1 from ⟨hp1, hp2⟩)
        have hw1 : IntKind.i64.wrap ((p1 : Int) + 1) = (p2 : Int) := by rw [wrapI (by omega) (by omega)]; omega
        have hw2 : wrap64 ((p1 : Int) + 1) = (p2 : Int) := by unfold wrap64; omega
        have HC1 := Lib.hid (wordF (t := ⟨#[34]⟩) HR0.out (by omega) hS (by decide) (by decide) hm1)
        clear h34 h92 h9 hn120 hp1 hp2
        by_cases hc34 : nx S.data.toList p1 = 34
        · rw [if_pos (.inl hc34)] at hq
          have HHQ := Lib.hid hq
          have HCI := Lib.hid (show (((nx S.data.toList p1).toNat : Nat) : Int) = 34 by rw [hc34]; rfl)
          have hp1S : p1 < S.size := nx_lt (by rw [hc34]; decide)
          have HB8 := Lib.hid (show B8 o ++ [Value.int .u8 34] = B8 (o ++ [nx S.data.toList p1]) by rw [B8_snoc, hc34]; rfl)
          clear hc34 hq
          go_upto_region 14 with (first
            | (go_at_call 88; (with_reducible refine HC1.out.mono ?_); rintro e w1 ⟨rfl, hRx, hKx⟩; have HR1 := Lib.hid hRx; have HK1 := Lib.hid (HK0.out.trans hKx); have HC2 := Lib.hid (wordF (t := ⟨#[92, 120]⟩) HR1.out (by omega) hS (by decide) (by decide) hm2); clear hRx hKx)
            | (go_at_call 88; (with_reducible refine HC2.out.mono ?_); rintro e w2 ⟨rfl, hRx, hKx⟩; have HR2 := Lib.hid hRx; have HK2 := Lib.hid (HK1.out.trans hKx); have HC3 := Lib.hid (wordT (t := ⟨#[92]⟩) HR2.out (by omega) hS (by decide) (by decide) hm3); clear hRx hKx)
            | (go_at_call 88; (with_reducible refine HC3.out.mono ?_); rintro e w3 ⟨rfl, hRx, hKx⟩; have hRx : Rr w3 rb S p1 D N false := by rw [HPN.out.1]; exact hRx
               have HR3 := Lib.hid hRx; have HK3 := Lib.hid (HK2.out.trans hKx); have HC4 := Lib.hid (nextL HR3.out HCI.out); clear hRx hKx)
            | (go_at_call 87; (with_reducible refine HC4.out.mono ?_); rintro e w4 ⟨rfl, hRx, hKx⟩; have HR4 := Lib.hid hRx; have HK4 := Lib.hid (HK3.out.trans hKx); clear hRx hKx))
          have HC5 := Lib.hid (nextL HR4.out HCI.out)
          go_wp2_with (first
            | (go_at_call 87; (with_reducible refine HC5.out.mono ?_); rintro e w5 ⟨rfl, hRx, hKx⟩; have HR5 := Lib.hid hRx; have HK5 := Lib.hid (HK4.out.trans hKx); have HRW := Lib.hid HR5.out; have HKW := Lib.hid HK5.out; have HRX := Lib.hid (HROW.out.keep1 HK5.out hrb); have HR9 := fun o => Lib.hid (HRX.out.alloc o); have HLS := Lib.hid (show w.heap.size ≤ w5.heap.size from Nat.le_trans HK.out.size HK5.out.size); have HS9 := Lib.hid (Src.oneAt (P := Tryd.prog) (w := w5) (tx := 53) Tryd.underlying53 (.int .u8 34) 5 rfl (g := w5.heap.size) rfl); clear hRx hKx)
            | (at_builtin; refine wpList_append_row rfl _ _ 53 53 rfl 5 i0 (.int .u8 0) 1 1 Tryd.underlying53 hi hy0 hy1 hy2 rfl rfl (HR9 _).out 1 _ HS9.out (by unfold maxLen; omega) (by omega) (by have := HLS.out; simp; omega) ?_; intro a4 c4 w4 hrow hgr hbk4; have HG9 := Lib.hid hrow; have HG4 := Lib.hid hgr; have HRG := Lib.hid (rr_grown HRW.out HRX.out hrb ((Below.refl _ _).alloc (Nat.le_refl _) _) hgr).1; have d1 := HRG.out.cell 1 rfl; have g1 := HRG.out.free 1 (by simp); clear hrow hgr hbk4))
          have hfin : QR rb S D N w res f9 (.slice a4 (n + 1) c4) (w4.setCell ⟨rb, 1, none⟩ (.int .i64 (p2 : Nat))) := ru_next (o := o ++ [nx S.data.toList p1]) HK.out HKW.out HRG.out HRX.out hrb ((Below.refl _ _).alloc (Nat.le_refl _) _) (HB8.out ▸ HG9.out) HG4.out (by rw [List.length_append, HOL.out]; rfl) (by have := HPN.out; (try clear hw1); (try clear hw2); omega) (by have := HPN.out; (try clear hw1); (try clear hw2); omega) HHQ.out
          exact ⟨⟨f9, hfin⟩, Nat.lt_of_le_of_lt (least_le hfin) (by have := HLE.out; omega)⟩
        by_cases hc92 : nx S.data.toList p1 = 92
        · rw [if_pos (.inr hc92)] at hq
          have HHQ := Lib.hid hq
          have HCI := Lib.hid (show (((nx S.data.toList p1).toNat : Nat) : Int) = 92 by rw [hc92]; rfl)
          have hp1S : p1 < S.size := nx_lt (by rw [hc92]; decide)
          have HB8 := Lib.hid (show B8 o ++ [Value.int .u8 92] = B8 (o ++ [nx S.data.toList p1]) by rw [B8_snoc, hc92]; rfl)
          clear hc34 hc92 hq
          go_upto_region 14 with (first
            | (go_at_call 88; (with_reducible refine HC1.out.mono ?_); rintro e w1 ⟨rfl, hRx, hKx⟩; have HR1 := Lib.hid hRx; have HK1 := Lib.hid (HK0.out.trans hKx); have HC2 := Lib.hid (wordF (t := ⟨#[92, 120]⟩) HR1.out (by omega) hS (by decide) (by decide) hm2); clear hRx hKx)
            | (go_at_call 88; (with_reducible refine HC2.out.mono ?_); rintro e w2 ⟨rfl, hRx, hKx⟩; have HR2 := Lib.hid hRx; have HK2 := Lib.hid (HK1.out.trans hKx); have HC3 := Lib.hid (wordT (t := ⟨#[92]⟩) HR2.out (by omega) hS (by decide) (by decide) hm3); clear hRx hKx)
            | (go_at_call 88; (with_reducible refine HC3.out.mono ?_); rintro e w3 ⟨rfl, hRx, hKx⟩; have hRx : Rr w3 rb S p1 D N false := by rw [HPN.out.1]; exact hRx
               have HR3 := Lib.hid hRx; have HK3 := Lib.hid (HK2.out.trans hKx); have HC4 := Lib.hid (nextL HR3.out HCI.out); clear hRx hKx)
            | (go_at_call 87; (with_reducible refine HC4.out.mono ?_); rintro e w4 ⟨rfl, hRx, hKx⟩; have HR4 := Lib.hid hRx; have HK4 := Lib.hid (HK3.out.trans hKx); have HC5 := Lib.hid (nextL HR4.out HCI.out); clear hRx hKx)
            | (go_at_call 87; (with_reducible refine HC5.out.mono ?_); rintro e w5 ⟨rfl, hRx, hKx⟩; have HR5 := Lib.hid hRx; have HK5 := Lib.hid (HK4.out.trans hKx); clear hRx hKx))
          have HC6 := Lib.hid (nextL HR5.out HCI.out)
          go_wp2_with (first
            | (go_at_call 87; (with_reducible refine HC6.out.mono ?_); rintro e w6 ⟨rfl, hRx, hKx⟩; have HR6 := Lib.hid hRx; have HK6 := Lib.hid (HK5.out.trans hKx); have HRW := Lib.hid HR6.out; have HKW := Lib.hid HK6.out; have HRX := Lib.hid (HROW.out.keep1 HK6.out hrb); have HR9 := fun o => Lib.hid (HRX.out.alloc o); have HLS := Lib.hid (show w.heap.size ≤ w6.heap.size from Nat.le_trans HK.out.size HK6.out.size); have HS9 := Lib.hid (Src.oneAt (P := Tryd.prog) (w := w6) (tx := 53) Tryd.underlying53 (.int .u8 92) 5 rfl (g := w6.heap.size) rfl); clear hRx hKx)
            | (at_builtin; refine wpList_append_row rfl _ _ 53 53 rfl 5 i0 (.int .u8 0) 1 1 Tryd.underlying53 hi hy0 hy1 hy2 rfl rfl (HR9 _).out 1 _ HS9.out (by unfold maxLen; omega) (by omega) (by have := HLS.out; simp; omega) ?_; intro a4 c4 w4 hrow hgr hbk4; have HG9 := Lib.hid hrow; have HG4 := Lib.hid hgr; have HRG := Lib.hid (rr_grown HRW.out HRX.out hrb ((Below.refl _ _).alloc (Nat.le_refl _) _) hgr).1; have d1 := HRG.out.cell 1 rfl; have g1 := HRG.out.free 1 (by simp); clear hrow hgr hbk4))
          have hfin : QR rb S D N w res f9 (.slice a4 (n + 1) c4) (w4.setCell ⟨rb, 1, none⟩ (.int .i64 (p2 : Nat))) := ru_next (o := o ++ [nx S.data.toList p1]) HK.out HKW.out HRG.out HRX.out hrb ((Below.refl _ _).alloc (Nat.le_refl _) _) (HB8.out ▸ HG9.out) HG4.out (by rw [List.length_append, HOL.out]; rfl) (by have := HPN.out; (try clear hw1); (try clear hw2); omega) (by have := HPN.out; (try clear hw1); (try clear hw2); omega) HHQ.out
          exact ⟨⟨f9, hfin⟩, Nat.lt_of_le_of_lt (least_le hfin) (by have := HLE.out; omega)⟩
        rw [if_neg (show ¬ (nx S.data.toList p1 = 34 ∨ nx S.data.toList p1 = 92) from fun h => h.elim hc34 hc92)] at hq
        have hres : res = .bad := hq.symm
        obtain ⟨cc, hcc⟩ : ∃ cc, cc = (nx S.data.toList p1).toNat := ⟨_, rfl⟩
        have hn34 : ¬ (cc : Int) = 34 := fun h => hc34 (UInt8.toNat_inj.1 (by rw [← hcc]; show cc = 34; omega))
        have hn92 : ¬ (cc : Int) = 92 := fun h => hc92 (UInt8.toNat_inj.1 (by rw [← hcc]; show cc = 92; omega))
        have hb34 : ((cc : Int) != 34) = true := by simpa using hn34
        have hb92 : ((cc : Int) != 92) = true := by simpa using hn92
        have hcl := (nx S.data.toList p1).toNat_lt
        rw [← hcc] at hcl
        have HCN := Lib.hid hcc
        clear hq hc34 hc92 hcc
        go_upto_region 14 with (first
          | (go_at_call 88; (with_reducible refine HC1.out.mono ?_); rintro e w1 ⟨rfl, hRx, hKx⟩; have HR1 := Lib.hid hRx; have HK1 := Lib.hid (HK0.out.trans hKx); have HC2 := Lib.hid (wordF (t := ⟨#[92, 120]⟩) HR1.out (by omega) hS (by decide) (by decide) hm2); clear hRx hKx)
          | (go_at_call 88; (with_reducible refine HC2.out.mono ?_); rintro e w2 ⟨rfl, hRx, hKx⟩; have HR2 := Lib.hid hRx; have HK2 := Lib.hid (HK1.out.trans hKx); have HC3 := Lib.hid (wordT (t := ⟨#[92]⟩) HR2.out (by omega) hS (by decide) (by decide) hm3); clear hRx hKx)
          | (go_at_call 88; (with_reducible refine HC3.out.mono ?_); rintro e w3 ⟨rfl, hRx, hKx⟩; have hRx : Rr w3 rb S p1 D N false := by rw [HPN.out.1]; exact hRx
             have HR3 := Lib.hid hRx; have HK3 := Lib.hid (HK2.out.trans hKx); have HC4 := Lib.hid (nextC HR3.out HCN.out); clear hRx hKx)
          | (go_at_call 87; (with_reducible refine HC4.out.mono ?_); rintro e w4 ⟨rfl, hRx, hKx⟩; have HR4 := Lib.hid hRx; have HK4 := Lib.hid (HK3.out.trans hKx); have HC5 := Lib.hid (nextC HR4.out HCN.out); clear hRx hKx)
          | (go_at_call 87; (with_reducible refine HC5.out.mono ?_); rintro e w5 ⟨rfl, hRx, hKx⟩; have HR5 := Lib.hid hRx; have HK5 := Lib.hid (HK4.out.trans hKx); have e4 := hRx.cell 4 rfl; have f4 := hRx.free 4 (by simp); clear hRx hKx))
        have HR6 := Lib.hid (rr_bad HR5.out).1
        have HK6 := Lib.hid (HK5.out.trans (rr_bad HR5.out).2)
        generalize w5.setCell ⟨rb, 4, none⟩ (.bool true) = w6 at *
        clear e4 f4
        by_cases h32 : (cc : Int) < 32
        · skip
          have HC7 := Lib.hid (nextC HR6.out HCN.out)
          go_upto_region 17 with (first
            | (go_at_call 87; (with_reducible refine HC7.out.mono ?_); rintro e w7 ⟨rfl, hRx, hKx⟩; have HR7 := Lib.hid hRx; have HK7 := Lib.hid (HK6.out.trans hKx); have e4 := hRx.cell 4 rfl; have f4 := hRx.free 4 (by simp); clear hRx hKx))
          have HR99 := Lib.hid (rr_bad HR7.out).1
          have HK99 := Lib.hid (HK7.out.trans (rr_bad HR7.out).2)
          generalize w7.setCell ⟨rb, 4, none⟩ (.bool true) = w99 at *
          have HRW := Lib.hid HR99.out; have HKW := Lib.hid HK99.out; have HRX := Lib.hid (HROW.out.keep1 HK99.out hrb); have HR9 := fun o => Lib.hid (HRX.out.alloc o); have HLS := Lib.hid (show w.heap.size ≤ w99.heap.size from Nat.le_trans HK.out.size HK99.out.size); have HS9 := Lib.hid (Src.oneAt (P := Tryd.prog) (w := w99) (tx := 53) Tryd.underlying53 (.int .u8 (cc : Nat)) 5 rfl (g := w99.heap.size) rfl)
          go_wp2_with (first
            | (at_builtin; refine wpList_append_row rfl _ _ 53 53 rfl 5 i0 (.int .u8 0) 1 1 Tryd.underlying53 hi hy0 hy1 hy2 rfl rfl (HR9 _).out 1 _ HS9.out (by unfold maxLen; omega) (by omega) (by have := HLS.out; simp; omega) ?_; intro a4 c4 w4 hrow hgr hbk4; have HG9 := Lib.hid hrow; have HG4 := Lib.hid hgr; have HRG := Lib.hid (rr_grown HRW.out HRX.out hrb ((Below.refl _ _).alloc (Nat.le_refl _) _) hgr).1; have d1 := HRG.out.cell 1 rfl; have g1 := HRG.out.free 1 (by simp); clear hrow hgr hbk4))
          have hfin : QR rb S D N w res 0 (.slice a4 (n + 1) c4) (w4.setCell ⟨rb, 1, none⟩ (.int .i64 (p2 : Nat))) := ru_bad HK.out HKW.out HRG.out HRX.out ((Below.refl _ _).alloc (Nat.le_refl _) _) HG4.out (by have := HPN.out; (try clear hw1); (try clear hw2); omega) hres
          exact ⟨⟨0, hfin⟩, Nat.lt_of_le_of_lt (least_le hfin) (by have := HLE.out; omega)⟩
        · by_cases h126 : (126 : Int) < (cc : Int)
          · skip
            have HC7 := Lib.hid (nextC HR6.out HCN.out)
            go_upto_region 17 with (first
              | (go_at_call 87; (with_reducible refine HC7.out.mono ?_); rintro e w7 ⟨rfl, hRx, hKx⟩; have HR7 := Lib.hid hRx; have HK7 := Lib.hid (HK6.out.trans hKx); have e4 := hRx.cell 4 rfl; have f4 := hRx.free 4 (by simp); clear hRx hKx))
            have HR99 := Lib.hid (rr_bad HR7.out).1
            have HK99 := Lib.hid (HK7.out.trans (rr_bad HR7.out).2)
            generalize w7.setCell ⟨rb, 4, none⟩ (.bool true) = w99 at *
            have HRW := Lib.hid HR99.out; have HKW := Lib.hid HK99.out; have HRX := Lib.hid (HROW.out.keep1 HK99.out hrb); have HR9 := fun o => Lib.hid (HRX.out.alloc o); have HLS := Lib.hid (show w.heap.size ≤ w99.heap.size from Nat.le_trans HK.out.size HK99.out.size); have HS9 := Lib.hid (Src.oneAt (P := Tryd.prog) (w := w99) (tx := 53) Tryd.underlying53 (.int .u8 (cc : Nat)) 5 rfl (g := w99.heap.size) rfl)
            go_wp2_with (first
              | (at_builtin; refine wpList_append_row rfl _ _ 53 53 rfl 5 i0 (.int .u8 0) 1 1 Tryd.underlying53 hi hy0 hy1 hy2 rfl rfl (HR9 _).out 1 _ HS9.out (by unfold maxLen; omega) (by omega) (by have := HLS.out; simp; omega) ?_; intro a4 c4 w4 hrow hgr hbk4; have HG9 := Lib.hid hrow; have HG4 := Lib.hid hgr; have HRG := Lib.hid (rr_grown HRW.out HRX.out hrb ((Below.refl _ _).alloc (Nat.le_refl _) _) hgr).1; have d1 := HRG.out.cell 1 rfl; have g1 := HRG.out.free 1 (by simp); clear hrow hgr hbk4))
            have hfin : QR rb S D N w res 0 (.slice a4 (n + 1) c4) (w4.setCell ⟨rb, 1, none⟩ (.int .i64 (p2 : Nat))) := ru_bad HK.out HKW.out HRG.out HRX.out ((Below.refl _ _).alloc (Nat.le_refl _) _) HG4.out (by have := HPN.out; (try clear hw1); (try clear hw2); omega) hres
            exact ⟨⟨0, hfin⟩, Nat.lt_of_le_of_lt (least_le hfin) (by have := HLE.out; omega)⟩
          · skip
            have HC7 := Lib.hid (nextC HR6.out HCN.out)
            go_wp2_with (first
              | (go_at_call 87; (with_reducible refine HC7.out.mono ?_); rintro e w7 ⟨rfl, hRx, hKx⟩; have HR7 := Lib.hid hRx; have HK7 := Lib.hid (HK6.out.trans hKx); have HRW := Lib.hid HR7.out; have HKW := Lib.hid HK7.out; have HRX := Lib.hid (HROW.out.keep1 HK7.out hrb); have HR9 := fun o => Lib.hid (HRX.out.alloc o); have HLS := Lib.hid (show w.heap.size ≤ w7.heap.size from Nat.le_trans HK.out.size HK7.out.size); have HS9 := Lib.hid (Src.oneAt (P := Tryd.prog) (w := w7) (tx := 53) Tryd.underlying53 (.int .u8 (cc : Nat)) 5 rfl (g := w7.heap.size) rfl); clear hRx hKx)
              | (at_builtin; refine wpList_append_row rfl _ _ 53 53 rfl 5 i0 (.int .u8 0) 1 1 Tryd.underlying53 hi hy0 hy1 hy2 rfl rfl (HR9 _).out 1 _ HS9.out (by unfold maxLen; omega) (by omega) (by have := HLS.out; simp; omega) ?_; intro a4 c4 w4 hrow hgr hbk4; have HG9 := Lib.hid hrow; have HG4 := Lib.hid hgr; have HRG := Lib.hid (rr_grown HRW.out HRX.out hrb ((Below.refl _ _).alloc (Nat.le_refl _) _) hgr).1; have d1 := HRG.out.cell 1 rfl; have g1 := HRG.out.free 1 (by simp); clear hrow hgr hbk4))
            have hfin : QR rb S D N w res 0 (.slice a4 (n + 1) c4) (w4.setCell ⟨rb, 1, none⟩ (.int .i64 (p2 : Nat))) := ru_bad HK.out HKW.out HRG.out HRX.out ((Below.refl _ _).alloc (Nat.le_refl _) _) HG4.out (by have := HPN.out; (try clear hw1); (try clear hw2); omega) hres
            exact ⟨⟨0, hfin⟩, Nat.lt_of_le_of_lt (least_le hfin) (by have := HLE.out; omega)⟩
      have hm2 : hasM S.data.toList p [92, 120] = false := by rw [hasM_cons (by decide), hasM_one (by decide)]; simp [h9]
      have hm3 : hasM S.data.toList p [92] = false := by rw [hasM_one (by decide)]; simpa using h9
      rw [if_neg h92, if_neg h9] at hq
      obtain ⟨p1, hp1⟩ : ∃ p1, p1 = p + 1 := ⟨_, rfl⟩
      rw [← hp1] at hq
      have HPN := Lib.hid hp1
      have hlt : ¬ (nx S.data.toList p < 32 ∨ 126 < nx S.data.toList p) → p < S.size := by
        intro h
        rcases Nat.lt_or_ge p S.size with h1 | h1
        · exact h1
        · exact absurd (.inl (by rw [nx_end (by rw [← Lib.size_eq]; exact h1)]; decide)) h
      have hw1 : IntKind.i64.wrap ((p : Int) + 1) = (p1 : Int) := by rw [wrapI (by omega) (by omega)]; omega
      have hw2 : wrap64 ((p : Int) + 1) = (p1 : Int) := by unfold wrap64; omega
      have HC1 := Lib.hid (wordF (t := ⟨#[34]⟩) HR0.out (by omega) hS (by decide) (by decide) hm1)
      obtain ⟨cc, hcc⟩ : ∃ cc, cc = (nx S.data.toList p).toNat := ⟨_, rfl⟩
      have hcl := (nx S.data.toList p).toNat_lt
      rw [← hcc] at hcl
      have hor : (nx S.data.toList p < 32 ∨ 126 < nx S.data.toList p) ↔ (cc < 32 ∨ 126 < cc) := by rw [UInt8.lt_iff_toNat_lt, UInt8.lt_iff_toNat_lt, ← hcc]; exact Iff.rfl
      have HHQ := Lib.hid hq
      have HOR := Lib.hid hor
      have HLT := Lib.hid hlt
      have HCN := Lib.hid hcc
      clear h34 h92 h9 hq hor hlt hcc hp1
      go_upto_region 14 with (first
        | (go_at_call 88; (with_reducible refine HC1.out.mono ?_); rintro e w1 ⟨rfl, hRx, hKx⟩; have HR1 := Lib.hid hRx; have HK1 := Lib.hid (HK0.out.trans hKx); have HC2 := Lib.hid (wordF (t := ⟨#[92, 120]⟩) HR1.out (by omega) hS (by decide) (by decide) hm2); clear hRx hKx)
        | (go_at_call 88; (with_reducible refine HC2.out.mono ?_); rintro e w2 ⟨rfl, hRx, hKx⟩; have HR2 := Lib.hid hRx; have HK2 := Lib.hid (HK1.out.trans hKx); have HC3 := Lib.hid (wordF (t := ⟨#[92]⟩) HR2.out (by omega) hS (by decide) (by decide) hm3); clear hRx hKx)
        | (go_at_call 88; (with_reducible refine HC3.out.mono ?_); rintro e w3 ⟨rfl, hRx, hKx⟩; have HR3 := Lib.hid hRx; have HK3 := Lib.hid (HK2.out.trans hKx); clear hRx hKx))

      by_cases h32 : (cc : Int) < 32
      · have hres : res = .bad := by rw [← HHQ.out, if_pos (HOR.out.2 (by omega))]
        have HC4 := Lib.hid (nextC HR3.out HCN.out)
        go_upto_region 17 with (first
          | (go_at_call 87; (with_reducible refine HC4.out.mono ?_); rintro e w4 ⟨rfl, hRx, hKx⟩; have HR4 := Lib.hid hRx; have HK4 := Lib.hid (HK3.out.trans hKx); have e4 := hRx.cell 4 rfl; have f4 := hRx.free 4 (by simp); clear hRx hKx))
        have HR99 := Lib.hid (rr_bad HR4.out).1
        have HK99 := Lib.hid (HK4.out.trans (rr_bad HR4.out).2)
        generalize w4.setCell ⟨rb, 4, none⟩ (.bool true) = w99 at *
        have HRW := Lib.hid HR99.out; have HKW := Lib.hid HK99.out; have HRX := Lib.hid (HROW.out.keep1 HK99.out hrb); have HR9 := fun o => Lib.hid (HRX.out.alloc o); have HLS := Lib.hid (show w.heap.size ≤ w99.heap.size from Nat.le_trans HK.out.size HK99.out.size); have HS9 := Lib.hid (Src.oneAt (P := Tryd.prog) (w := w99) (tx := 53) Tryd.underlying53 (.int .u8 (cc : Nat)) 5 rfl (g := w99.heap.size) rfl)
        go_wp2_with (first
          | (at_builtin; refine wpList_append_row rfl _ _ 53 53 rfl 5 i0 (.int .u8 0) 1 1 Tryd.underlying53 hi hy0 hy1 hy2 rfl rfl (HR9 _).out 1 _ HS9.out (by unfold maxLen; omega) (by omega) (by have := HLS.out; simp; omega) ?_; intro a4 c4 w4 hrow hgr hbk4; have HG9 := Lib.hid hrow; have HG4 := Lib.hid hgr; have HRG := Lib.hid (rr_grown HRW.out HRX.out hrb ((Below.refl _ _).alloc (Nat.le_refl _) _) hgr).1; have d1 := HRG.out.cell 1 rfl; have g1 := HRG.out.free 1 (by simp); clear hrow hgr hbk4))
        have hfin : QR rb S D N w res 0 (.slice a4 (n + 1) c4) (w4.setCell ⟨rb, 1, none⟩ (.int .i64 (p1 : Nat))) := ru_bad HK.out HKW.out HRG.out HRX.out ((Below.refl _ _).alloc (Nat.le_refl _) _) HG4.out (by have := HPN.out; (try clear hw1); (try clear hw2); omega) hres
        exact ⟨⟨0, hfin⟩, Nat.lt_of_le_of_lt (least_le hfin) (by have := HLE.out; omega)⟩
      · by_cases h126 : (126 : Int) < (cc : Int)
        · have hres : res = .bad := by rw [← HHQ.out, if_pos (HOR.out.2 (by omega))]
          have HC4 := Lib.hid (nextC HR3.out HCN.out)
          go_upto_region 17 with (first
            | (go_at_call 87; (with_reducible refine HC4.out.mono ?_); rintro e w4 ⟨rfl, hRx, hKx⟩; have HR4 := Lib.hid hRx; have HK4 := Lib.hid (HK3.out.trans hKx); have e4 := hRx.cell 4 rfl; have f4 := hRx.free 4 (by simp); clear hRx hKx))
          have HR99 := Lib.hid (rr_bad HR4.out).1
          have HK99 := Lib.hid (HK4.out.trans (rr_bad HR4.out).2)
          generalize w4.setCell ⟨rb, 4, none⟩ (.bool true) = w99 at *
          have HRW := Lib.hid HR99.out; have HKW := Lib.hid HK99.out; have HRX := Lib.hid (HROW.out.keep1 HK99.out hrb); have HR9 := fun o => Lib.hid (HRX.out.alloc o); have HLS := Lib.hid (show w.heap.size ≤ w99.heap.size from Nat.le_trans HK.out.size HK99.out.size); have HS9 := Lib.hid (Src.oneAt (P := Tryd.prog) (w := w99) (tx := 53) Tryd.underlying53 (.int .u8 (cc : Nat)) 5 rfl (g := w99.heap.size) rfl)
          go_wp2_with (first
            | (at_builtin; refine wpList_append_row rfl _ _ 53 53 rfl 5 i0 (.int .u8 0) 1 1 Tryd.underlying53 hi hy0 hy1 hy2 rfl rfl (HR9 _).out 1 _ HS9.out (by unfold maxLen; omega) (by omega) (by have := HLS.out; simp; omega) ?_; intro a4 c4 w4 hrow hgr hbk4; have HG9 := Lib.hid hrow; have HG4 := Lib.hid hgr; have HRG := Lib.hid (rr_grown HRW.out HRX.out hrb ((Below.refl _ _).alloc (Nat.le_refl _) _) hgr).1; have d1 := HRG.out.cell 1 rfl; have g1 := HRG.out.free 1 (by simp); clear hrow hgr hbk4))
          have hfin : QR rb S D N w res 0 (.slice a4 (n + 1) c4) (w4.setCell ⟨rb, 1, none⟩ (.int .i64 (p1 : Nat))) := ru_bad HK.out HKW.out HRG.out HRX.out ((Below.refl _ _).alloc (Nat.le_refl _) _) HG4.out (by have := HPN.out; (try clear hw1); (try clear hw2); omega) hres
          exact ⟨⟨0, hfin⟩, Nat.lt_of_le_of_lt (least_le hfin) (by have := HLE.out; omega)⟩
        · have hno : ¬ (nx S.data.toList p < 32 ∨ 126 < nx S.data.toList p) := fun h => by have := HOR.out.1 h; omega
          have hplt := HLT.out hno
          have hqq := HHQ.out
          rw [if_neg hno] at hqq
          have HQQ := Lib.hid hqq
          clear hqq hno
          have HC4 := Lib.hid (nextC HR3.out HCN.out)
          go_wp2_with (first
            | (go_at_call 87; (with_reducible refine HC4.out.mono ?_); rintro e w4 ⟨rfl, hRx, hKx⟩; have HR4 := Lib.hid hRx; have HK4 := Lib.hid (HK3.out.trans hKx); have HRW := Lib.hid HR4.out; have HKW := Lib.hid HK4.out; have HRX := Lib.hid (HROW.out.keep1 HK4.out hrb); have HR9 := fun o => Lib.hid (HRX.out.alloc o); have HLS := Lib.hid (show w.heap.size ≤ w4.heap.size from Nat.le_trans HK.out.size HK4.out.size); have HS9 := Lib.hid (Src.oneAt (P := Tryd.prog) (w := w4) (tx := 53) Tryd.underlying53 (.int .u8 (cc : Nat)) 5 rfl (g := w4.heap.size) rfl); clear hRx hKx)
            | (at_builtin; refine wpList_append_row rfl _ _ 53 53 rfl 5 i0 (.int .u8 0) 1 1 Tryd.underlying53 hi hy0 hy1 hy2 rfl rfl (HR9 _).out 1 _ HS9.out (by unfold maxLen; omega) (by omega) (by have := HLS.out; simp; omega) ?_; intro a4 c4 w4 hrow hgr hbk4; have HG9 := Lib.hid hrow; have HG4 := Lib.hid hgr; have HRG := Lib.hid (rr_grown HRW.out HRX.out hrb ((Below.refl _ _).alloc (Nat.le_refl _) _) hgr).1; have d1 := HRG.out.cell 1 rfl; have g1 := HRG.out.free 1 (by simp); clear hrow hgr hbk4))
          have hfin : QR rb S D N w res f9 (.slice a4 (n + 1) c4) (w4.setCell ⟨rb, 1, none⟩ (.int .i64 (p1 : Nat))) := ru_next (o := o ++ [nx S.data.toList p]) HK.out HKW.out HRG.out HRX.out hrb ((Below.refl _ _).alloc (Nat.le_refl _) _) (by rw [B8_snoc, ← HCN.out]; exact HG9.out) HG4.out (by rw [List.length_append, HOL.out]; rfl) (by have := HPN.out; (try clear hw1); (try clear hw2); omega) (by have := HPN.out; (try clear hw1); (try clear hw2); omega) HQQ.out
          exact ⟨⟨f9, hfin⟩, Nat.lt_of_le_of_lt (least_le hfin) (by have := HLE.out; omega)⟩
    · have c4 := hR.cell 4 rfl
      have HR := Lib.hid hR
      clear hR
      go_wp2_with fail
      go_ret
      exact ⟨[], true, p, rfl, HR.out, hp, HK.out, .inr ⟨rfl, hres⟩⟩
/-- quoted, well or not -/
theorem rquotedN {rb a D N f : Nat} {S : ByteArray} {w : World} {bad : Bool} (h : Rr w rb S a D N bad) (ha : a ≤ S.size) (hS : S.size ≤ 1000000000000)
    (ho : bad = false → hasM S.data.toList a [34] = true → quotedM S.data.toList f (a + 1) [] ≠ .out) : Calls Tryd.prog 91 #[.pointer (some ⟨rb, 0, none⟩)] w (RQP rb S a D N bad f w) := by
  cases bad
  · cases hm : hasM S.data.toList a [34]
    · exact rquotedB h ha hS (.inr hm)
    · exact rquotedT h ha hS hm (ho rfl hm)
  · exact rquotedB h ha hS (.inl rfl)
end Go.Proofs.YtofpdhkdnbnobaaDoor
