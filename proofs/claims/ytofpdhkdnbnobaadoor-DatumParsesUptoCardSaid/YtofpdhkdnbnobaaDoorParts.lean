/-
  The reader's parts, well or not in one contract each. Not a statement of the seat.
-/
import Derived.Test.YtofpdhkdnbnobaaDoorVal0
namespace Go.Proofs.YtofpdhkdnbnobaaDoor
open Go.RowKit

theorem hasM_end {S t : ByteArray} {a : Nat} (ha : a ≤ S.size) (h : hasM S.data.toList a t.data.toList = true) : a + t.size ≤ S.size := by
  rw [Lib.size_eq S, Lib.size_eq t]
  rcases hasM_len h with h1 | h1
  · exact h1
  · rw [h1]; rw [Lib.size_eq S] at ha; simpa using ha
theorem numTo_end {S : ByteArray} {a : Nat} (ha : a ≤ S.size) : numTo S.data.toList a ≤ S.size := by
  unfold numTo
  rw [Lib.size_eq] at ha ⊢
  refine whileM_le _ _ _ ?_
  unfold digM
  split
  · rename_i h
    rcases hasM_len h with h1 | h1
    · exact h1
    · cases h1
  · exact ha

def NPg (rb : Nat) (S : ByteArray) (a deep : Nat) (w : World) (e : Ending) (w' : World) : Prop :=
  ∃ v bad, e = .returned (.int .i64 v) ∧ Rdr w' rb S (numTo S.data.toList a) deep bad ∧ Kept (N1 rb) w w' ∧ ((bad = false ∧ numberM S.data.toList a = some v) ∨ (bad = true ∧ numberM S.data.toList a = none))
theorem numberG {rb a deep : Nat} {S : ByteArray} {w : World} (h : Rdr w rb S a deep false) (ha : a ≤ S.size) (hS : S.size ≤ 1000000000000) (hL : Lb w) (hrb : 7 ≤ rb) :
    Calls Tryd.prog 64 #[.pointer (some ⟨rb, 0, none⟩)] w (NPg rb S a deep w) := by
  cases hn : numberM S.data.toList a with
  | some v =>
    refine (numberT h ha hS hL hrb hn).mono ?_
    rintro e w' ⟨h1, h2, h3⟩
    exact ⟨v, false, h1, h2, h3, .inl ⟨rfl, hn⟩⟩
  | none =>
    refine (numberF h ha hS hL hrb hn).mono ?_
    rintro e w' ⟨⟨v, h1⟩, h2, h3⟩
    exact ⟨v, true, h1, h2, h3, .inr ⟨rfl, hn⟩⟩

def QPg (rb : Nat) (S : ByteArray) (a deep : Nat) (bad : Bool) (f : Nat) (w : World) (e : Ending) (w' : World) : Prop :=
  ∃ (t : Bs) (bad' : Bool) (a' : Nat), e = .returned (.string ⟨t.toArray⟩) ∧ Rdr w' rb S a' deep bad' ∧ a' ≤ S.size ∧ Kept (N1 rb) w w' ∧
    ((bad' = false ∧ bad = false ∧ hasM S.data.toList a [34] = true ∧ quotedM S.data.toList f (a + 1) [] = .ok t a') ∨
      (bad' = true ∧ (bad = true ∨ hasM S.data.toList a [34] = false ∨ (hasM S.data.toList a [34] = true ∧ quotedM S.data.toList f (a + 1) [] = .bad))))
theorem quotedG {rb a deep f : Nat} {S : ByteArray} {bad : Bool} {w : World} (h : Rdr w rb S a deep bad) (ha : a ≤ S.size) (hS : S.size ≤ 1000000000000)
    (ho : bad = false → hasM S.data.toList a [34] = true → quotedM S.data.toList f (a + 1) [] ≠ .out) :
    Calls Tryd.prog 67 #[.pointer (some ⟨rb, 0, none⟩)] w (QPg rb S a deep bad f w) := by
  cases bad
  · cases hh : hasM S.data.toList a [34]
    · refine (quotedF h ha (.inr hh)).mono ?_
      rintro e w' ⟨h1, h2, h3⟩
      exact ⟨[], true, a, h1, h2, ha, h3, .inr ⟨rfl, .inr (.inl hh)⟩⟩
    · have hout := ho rfl hh
      cases hq : quotedM S.data.toList f (a + 1) [] with
      | out => exact absurd hq hout
      | bad =>
        refine (quotedT h ha hS hh hq (by simp)).mono ?_
        rintro e w' ⟨h1, ⟨a', h2, h4⟩, h3⟩
        exact ⟨[], true, a', h1, h2, h4, h3, .inr ⟨rfl, .inr (.inr ⟨hh, hq⟩)⟩⟩
      | ok t b =>
        refine (quotedT h ha hS hh hq (by simp)).mono ?_
        rintro e w' ⟨h1, ⟨h2, h4⟩, h3⟩
        exact ⟨t, false, b, h1, h2, h4, h3, .inl ⟨rfl, rfl, hh, hq⟩⟩
  · refine (quotedF h ha (.inl rfl)).mono ?_
    rintro e w' ⟨h1, h2, h3⟩
    exact ⟨[], true, a, h1, h2, ha, h3, .inr ⟨rfl, .inl rfl⟩⟩

def WPg (rb : Nat) (S : ByteArray) (a : Nat) (t : ByteArray) (deep : Nat) (bad : Bool) (w : World) (e : Ending) (w' : World) : Prop :=
  ∃ (bad' : Bool) (a' : Nat), e = .returned (.tuple #[]) ∧ Rdr w' rb S a' deep bad' ∧ a' ≤ S.size ∧ Kept (N1 rb) w w' ∧
    ((bad' = false ∧ bad = false ∧ hasM S.data.toList a t.data.toList = true ∧ a' = a + t.size) ∨ (bad' = true ∧ (bad = true ∨ hasM S.data.toList a t.data.toList = false)))
theorem wantG {rb a deep : Nat} {S t : ByteArray} {bad : Bool} {w : World} (h : Rdr w rb S a deep bad) (ha : a ≤ S.size) (hS : S.size ≤ 1000000000000) (ht : t.size ≤ 1000) :
    Calls Tryd.prog 69 #[.pointer (some ⟨rb, 0, none⟩), .string t] w (WPg rb S a t deep bad w) := by
  cases bad
  · cases hh : hasM S.data.toList a t.data.toList
    · refine (wantF h ha (.inr hh)).mono ?_
      rintro e w' ⟨h1, h2, h3⟩
      exact ⟨true, a, h1, h2, ha, h3, .inr ⟨rfl, .inr hh⟩⟩
    · refine (wantT h ha hS ht hh).mono ?_
      rintro e w' ⟨h1, h2, h3⟩
      exact ⟨false, _, h1, h2, hasM_end ha hh, h3, .inl ⟨rfl, rfl, hh, rfl⟩⟩
  · refine (wantF h ha (.inl rfl)).mono ?_
    rintro e w' ⟨h1, h2, h3⟩
    exact ⟨true, a, h1, h2, ha, h3, .inr ⟨rfl, .inl rfl⟩⟩

def RPg (rb : Nat) (S : ByteArray) (a : Nat) (t : ByteArray) (deep : Nat) (bad : Bool) (f : Nat) (w : World) (e : Ending) (w' : World) : Prop :=
  ∃ (l : Option Addr) (n c : Nat) (bad' : Bool) (a' : Nat) (fo : Fo), e = .returned (.slice l n c) ∧ Rdr w' rb S a' deep bad' ∧ a' ≤ S.size ∧ Kept (N1 rb) w w' ∧
    ((bad' = false ∧ bad = false ∧ rowM S.data.toList f deep a t.data.toList .nil = .ok fo a' ∧ FoAt (fun x => w.heap.size ≤ x) w' fo l n c) ∨ (bad' = true ∧ (bad = true ∨ rowM S.data.toList f deep a t.data.toList .nil = .bad)))
theorem rowG {rb a deep f : Nat} {S t : ByteArray} {bad : Bool} {w : World} (hOK : ROK S f) (h : Rdr w rb S a deep bad) (ha : a ≤ S.size) (hd : deep ≤ 16) (hL : Lb w) (hrb : 7 ≤ rb) (ht : t.size ≤ 1000)
    (ho : bad = false → rowM S.data.toList f deep a t.data.toList .nil ≠ .out) :
    Calls Tryd.prog 70 #[.pointer (some ⟨rb, 0, none⟩), .string t] w (RPg rb S a t deep bad f w) := by
  cases bad
  · have hc := hOK rb a deep t w h ha hd hL hrb ht (ho rfl)
    have hout := ho rfl
    cases hr : rowM S.data.toList f deep a t.data.toList .nil with
    | out => exact absurd hr hout
    | bad =>
      rw [hr] at hc
      refine hc.mono ?_
      rintro e w' ⟨l, n, c, h1, ⟨a', h2, h4⟩, h3⟩
      exact ⟨l, n, c, true, a', .nil, h1, h2, h4, h3, .inr ⟨rfl, .inr hr⟩⟩
    | ok fo b =>
      rw [hr] at hc
      refine hc.mono ?_
      rintro e w' ⟨l, n, c, h1, h5, ⟨h2, h4⟩, h3⟩
      exact ⟨l, n, c, false, b, fo, h1, h2, h4, h3, .inl ⟨rfl, rfl, hr, h5⟩⟩
  · refine (rowB h).mono ?_
    rintro e w' ⟨h1, rfl⟩
    exact ⟨none, 0, 0, true, a, .nil, h1, h, ha, Kept.refl _ _, .inr ⟨rfl, .inl rfl⟩⟩

/-- the end of a way through value -/
theorem v_fin {tmps : Array Value} {w w' : World} {rb b d deep : Nat} {S : ByteArray} {bad : Bool} {u0 u1 u2 u3 u4 v0 v1 v2 v3 v4 : Value} {R : Ending → World → Prop} (ht : tmps.getD 2 undef = .pointer (some ⟨w.heap.size + 1, 0, none⟩))
    (h : Rdr w' rb S b d bad) (hB : Bx w w' rb [u0, u1, u2, u3, u4]) (hd : d = deep + 1) (h16 : deep ≤ 16) (hrb : rb < w.heap.size)
    (hR : ∀ wq, Rdr wq rb S b deep bad → Kept (N1 rb) w wq → (∀ x, w.heap.size + 2 ≤ x → x < w'.heap.size → wq.heap[x]? = w'.heap[x]?) → R (.returned (.agg #[v0, v1, v2, v3, v4])) wq) :
    bodyPostD Tryd.prog Tryd.f36 R Exit.ret { tmps := tmps, defers := [{ target := .fn (.func 62) #[.pointer (some ⟨w.heap.size, 0, none⟩)], args := #[] }] } (st5 w' (w.heap.size + 1) v0 v1 v2 v3 v4) := by
  have hk := st5_kept (w := w') (b := w.heap.size + 1) v0 v1 v2 v3 v4
  have h1 : Rdr (st5 w' (w.heap.size + 1) v0 v1 v2 v3 v4) rb S b d bad := Blk.keep h hk (by unfold N1; omega)
  have h2 : Rdr ((st5 w' (w.heap.size + 1) v0 v1 v2 v3 v4).setCell ⟨rb, 2, none⟩ (.int .i64 (deep : Nat))) rb S b deep bad := by simpa [Rdr] using Blk.set h1 (j := 2) (.int .i64 (deep : Nat))
  refine v_late ht ((hB.ptr.keep hk (by unfold N1; omega)).cell 0 rfl) h1 hd h16 ((st5_blk hB.out v0 v1 v2 v3 v4).other (p := ⟨rb, 2, none⟩) _ (by show rb ≠ _; omega)) ?_
  refine hR _ h2 ((hB.kept.over hk (by omega)).put (p := ⟨rb, 2, none⟩) _ (fun _ => rfl)) (fun x hx hlt => ?_)
  have hk2 : Kept (N1 rb) (st5 w' (w.heap.size + 1) v0 v1 v2 v3 v4) ((st5 w' (w.heap.size + 1) v0 v1 v2 v3 v4).setCell ⟨rb, 2, none⟩ (.int .i64 (deep : Nat))) := (Kept.refl _ _).put (p := ⟨rb, 2, none⟩) _ (fun _ => rfl)
  rw [hk2.block x (Nat.lt_of_lt_of_le hlt hk.size) (by unfold N1; omega)]
  exact hk.block x hlt (by unfold N1; omega)
end Go.Proofs.YtofpdhkdnbnobaaDoor
