/-
  row (walk), by what value comes to. Not a statement of the seat.
-/
import Derived.Test.YtofpdhkdnbnobaaDoorQuoted
import Derived.Test.YtofpdhkdnbnobaaDoorMono
namespace Go.Proofs.YtofpdhkdnbnobaaDoor
open Go.RowKit

/-- what value comes to -/
def VP (rb : Nat) (S : ByteArray) (deep : Nat) (w : World) (res : Res Dt) (e : Ending) (w' : World) : Prop :=
  match res with
  | .ok d b => ∃ l n c, e = .returned (.agg #[.int .i64 d.k, .int .i64 d.i, .int .u64 d.b, .string ⟨d.t.toArray⟩, .slice l n c]) ∧ FoAt (fun x => w.heap.size ≤ x) w' d.l l n c ∧ (Rdr w' rb S b deep false ∧ b ≤ S.size) ∧ Kept (N1 rb) w w'
  | .bad => ∃ k i b t l n c, e = .returned (.agg #[.int .i64 k, .int .i64 i, .int .u64 b, .string t, .slice l n c]) ∧ (∃ a', Rdr w' rb S a' deep true ∧ a' ≤ S.size) ∧ Kept (N1 rb) w w'
  | .out => True
/-- what row comes to -/
def RP (rb : Nat) (S : ByteArray) (deep : Nat) (w : World) (res : Res Fo) (e : Ending) (w' : World) : Prop :=
  match res with
  | .ok f b => ∃ l n c, e = .returned (.slice l n c) ∧ FoAt (fun x => w.heap.size ≤ x) w' f l n c ∧ (Rdr w' rb S b deep false ∧ b ≤ S.size) ∧ Kept (N1 rb) w w'
  | .bad => ∃ l n c, e = .returned (.slice l n c) ∧ (∃ a', Rdr w' rb S a' deep true ∧ a' ≤ S.size) ∧ Kept (N1 rb) w w'
  | .out => True
def VOK (S : ByteArray) (f : Nat) : Prop := ∀ (rb a deep : Nat) (w : World), Rdr w rb S a deep false → a ≤ S.size → deep ≤ 16 → Lb w → 7 ≤ rb → valueM S.data.toList f deep a ≠ .out →
  Calls Tryd.prog 36 #[.pointer (some ⟨rb, 0, none⟩)] w (VP rb S deep w (valueM S.data.toList f deep a))
def ROK (S : ByteArray) (f : Nat) : Prop := ∀ (rb a deep : Nat) (t : ByteArray) (w : World), Rdr w rb S a deep false → a ≤ S.size → deep ≤ 16 → Lb w → 7 ≤ rb → t.size ≤ 1000 → rowM S.data.toList f deep a t.data.toList .nil ≠ .out →
  Calls Tryd.prog 70 #[.pointer (some ⟨rb, 0, none⟩), .string t] w (RP rb S deep w (rowM S.data.toList f deep a t.data.toList .nil))
/-- value and row of a reader that has met no value -/
def VBP (rb : Nat) (S : ByteArray) (a deep : Nat) (w : World) (e : Ending) (w' : World) : Prop :=
  e = .returned (.agg #[.int .i64 0, .int .i64 0, .int .u64 0, .string ⟨#[]⟩, .slice none 0 0]) ∧ Rdr w' rb S a deep true ∧ Kept (N1 rb) w w'

theorem datumInfo : (Tryd.prog.info? 25).map (fun i => (i.zero, i.size, i.bytes)) = some (some (.agg #[.int .i64 0, .int .i64 0, .int .u64 0, .string ⟨#[]⟩, .slice none 0 0]), 5, 64) := by kernel_rfl

theorem Src.oneRow {P : Program} {w : World} {size : Nat} {tx e' : TypeId} (hk : P.underlying tx = some (.slice e')) (news : List Value) (A : Array Value) (e : TypeId) {g : Nat} (hg : g = w.heap.size) (hA : A = news.toArray) (hl : news.length = size) (h1 : ∀ u ∈ news, u.oneCell' = true) : Src P size tx (.slice (some ⟨g, 0, none⟩) 1 1) 1 news (w.alloc (.cells A e)) := by
  subst hg
  subst hA
  refine Src.ofSlice _ hk _ 1 1 news (by omega) (fun j u hj => ?_) h1
  rw [Addr.add_lit]
  have hjl := (List.getElem?_eq_some_iff.1 hj).1
  simp [hj]
def V5 (k i b : Int) (t : ByteArray) (l : Option Addr) (n c : Nat) : List Value := [.int .i64 k, .int .i64 i, .int .u64 b, .string t, .slice l n c]
theorem V5_one (k i b : Int) (t : ByteArray) (l : Option Addr) (n c : Nat) : ∀ u ∈ V5 k i b t l n c, u.oneCell' = true := by
  intro u hu
  simp only [V5, List.mem_cons, List.mem_nil_iff, or_false] at hu
  rcases hu with rfl | rfl | rfl | rfl | rfl <;> rfl

/-- a reader that has met no value reads no row -/
theorem rowB {rb a deep : Nat} {S t : ByteArray} {w : World} (h : Rdr w rb S a deep true) :
    Calls Tryd.prog 70 #[.pointer (some ⟨rb, 0, none⟩), .string t] w (fun e w' => e = .returned (.slice none 0 0) ∧ w' = w) := by
  have c3 := h.cell 3 rfl
  clear h
  go_enter Tryd.func70, Tryd.ntmps70
  go_wp2_with fail
  go_loopw [5] (fun t5 wr => t5 = .slice none 0 0 ∧ wr = w) (fun _ _ => 0)
  case atStart => exact ⟨rfl, rfl⟩
  case round =>
    obtain ⟨rfl, rfl⟩ := hrel
    go_wp2_with fail
    go_ret
    exact ⟨rfl, rfl⟩

def VBOK (S : ByteArray) : Prop := ∀ (rb a deep : Nat) (w : World), Rdr w rb S a deep true → a ≤ S.size → Calls Tryd.prog 36 #[.pointer (some ⟨rb, 0, none⟩)] w (VBP rb S a deep w)

/-- between two rounds of row: well, or not -/
def RRel (rb : Nat) (S : ByteArray) (deep : Nat) (t : Bs) (w : World) (res : Res Fo) (f : Nat) (t5 : Value) (wr : World) : Prop :=
  ∃ l n cap cs, t5 = .slice l n cap ∧ Row w.heap.size wr 5 l n cap cs ∧ Kept (N1 rb) w wr ∧ 2 * n ≤ 1000000000004 ∧
    ((∃ a acc, acc.len = n ∧ 2 * n ≤ a + 2 ∧ a ≤ S.size ∧ At (fun x => w.heap.size ≤ x ∧ blockOf l ≠ some x) wr acc cs ∧ Rdr wr rb S a deep false ∧ rowM S.data.toList f deep a t acc = res)
      ∨ (∃ a, a ≤ S.size ∧ Rdr wr rb S a deep true ∧ res = .bad))

theorem Lb.keep1 {w w' : World} {rb : Nat} (h : Lb w) (g : Kept (N1 rb) w w') (hrb : 7 ≤ rb) : Lb w' := h.keep g (fun b hb e => by unfold N1 at e; omega)

/-- behind a value that is well, and its append -/
theorem r_next {rb deep f n cap c4 b : Nat} {S : ByteArray} {t : Bs} {w wr wv w4 : World} {l a4 : Option Addr} {cs : List Value} {acc : Fo} {d : Dt} {res : Res Fo} {lv : Option Addr} {nv cv : Nat} {ob : Obj} {wc : World}
    (hRow : Row w.heap.size wr 5 l n cap cs) (hK : Kept (N1 rb) w wr) (hlen : acc.len = n) (hAt : At (fun x => w.heap.size ≤ x ∧ blockOf l ≠ some x) wr acc cs) (hrb : rb < w.heap.size)
    (hKc : Kept (N1 rb) wr wc) (hF : FoAt (fun x => wc.heap.size ≤ x) wv d.l lv nv cv) (hRv : Rdr wv rb S b deep false) (hb : b ≤ S.size) (hKv : Kept (N1 rb) wc wv) (hn2 : 2 * (n + 1) ≤ b + 2) (hbig : 2 * (n + 1) ≤ 1000000000004)
    (hrow : Row w.heap.size w4 5 a4 (n + 1) c4 (cs ++ V5 d.k d.i d.b ⟨d.t.toArray⟩ lv nv cv)) (hgr : (wv.alloc ob).grownBy w4 (blockOf l)) (hbk : blockOf a4 = blockOf l ∨ blockOf a4 = some (wv.alloc ob).heap.size)
    (hres : rowM S.data.toList f deep b t (acc.app d.fo) = res) : RRel rb S deep t w res f (.slice a4 (n + 1) c4) w4 := by
  have hl : ∀ x, blockOf l = some x → w.heap.size ≤ x ∧ x < wr.heap.size := fun x e => hRow.lt x e
  have hKwv : Kept (N1 rb) wr wv := hKc.trans hKv
  have hs1 := hKc.size
  have hs2 := hKv.size
  have hs0 := hK.size
  have hsz : (wv.alloc ob).heap.size = wv.heap.size + 1 := by simp
  have hall : Below wv.heap.size wv (wv.alloc ob) := (Below.refl _ _).alloc (Nat.le_refl _) _
  have h5 : ∀ x, x < wv.heap.size → blockOf l ≠ some x → w4.heap[x]? = wv.heap[x]? := fun x hx hne => by
    rw [hgr.block x (by omega) (fun e => hne e.symm), hall.block x hx]
  have hS : ∀ x, x < wv.heap.size → blockOf l ≠ some x → blockOf a4 ≠ some x := fun x hx hne e => by
    rcases hbk with h | h
    · exact hne (h ▸ e)
    · rw [h] at e; cases e; omega
  refine ⟨a4, n + 1, c4, _, rfl, hrow, ((hK.trans hKwv).calm hall).grown hgr (fun x e hlt => by have := (hl x e).1; omega), hbig, .inl ⟨b, acc.app d.fo, ?_, hn2, hb, ?_, ?_, hres⟩⟩
  · rw [Fo.len_app, hlen]; rfl
  · refine At.app acc ?_ ?_
    · refine At.same acc hAt (fun x hx hlt => ?_) (fun x hx hlt => ⟨hx.1, hS x (by omega) hx.2⟩)
      rw [h5 x (by omega) hx.2]
      exact hKwv.block x hlt (fun e => by unfold N1 at e; omega)
    · obtain ⟨ks, ⟨h1, h2⟩, h3⟩ := hF
      have hsame : ∀ x, wc.heap.size ≤ x → x < wv.heap.size → w4.heap[x]? = wv.heap[x]? := fun x h hx => h5 x hx (fun e => by have := (hl x e).2; omega)
      refine ⟨lv, nv, cv, ks, [], rfl, ⟨h1.same0 (fun x hn hx hlt => hsame x (h2 x hn hx) hlt), fun x hn hx => ?_⟩, At.same d.l h3 hsame (fun x hx hlt => ⟨by omega, hS x hlt (fun e => by have := (hl x e).2; omega)⟩), rfl⟩
      have h4 := h2 x hn hx
      have hlt : x < wv.heap.size := by
        rcases h1.2.2.2 with ⟨h, _⟩ | ⟨b0, off, rfl, hlt, _⟩
        · omega
        · cases hx; exact hlt
      exact ⟨by omega, hS x hlt (fun e => by have := (hl x e).2; omega)⟩
  · exact Blk.grown (Blk.below hRv hall) hgr (fun e => by have := (hl rb e).1; omega)

/-- .. that is none -/
theorem r_bad {rb deep f n cap c4 b : Nat} {S : ByteArray} {t : Bs} {w wr wv w4 : World} {l a4 : Option Addr} {cs cs' : List Value} {res : Res Fo} {ob : Obj}
    (hRow : Row w.heap.size wr 5 l n cap cs) (hK : Kept (N1 rb) w wr) (hrb : rb < w.heap.size) (hKv : Kept (N1 rb) wr wv) (hRv : Rdr wv rb S b deep true) (hb : b ≤ S.size) (hbig : 2 * (n + 1) ≤ 1000000000004)
    (hrow : Row w.heap.size w4 5 a4 (n + 1) c4 cs') (hgr : (wv.alloc ob).grownBy w4 (blockOf l)) (hres : res = .bad) : RRel rb S deep t w res f (.slice a4 (n + 1) c4) w4 := by
  have hl : ∀ x, blockOf l = some x → w.heap.size ≤ x ∧ x < wr.heap.size := fun x e => hRow.lt x e
  have hall : Below wv.heap.size wv (wv.alloc ob) := (Below.refl _ _).alloc (Nat.le_refl _) _
  exact ⟨a4, n + 1, c4, _, rfl, hrow, ((hK.trans hKv).calm hall).grown hgr (fun x e hlt => by have := (hl x e).1; omega), hbig, .inr ⟨b, hb, Blk.grown (Blk.below hRv hall) hgr (fun e => by have := (hl rb e).1; omega), hres⟩⟩

set_option maxHeartbeats 8000000 in
set_option maxRecDepth 100000 in
theorem rowN {S : ByteArray} {f : Nat} (hS : S.size ≤ 1000000000000) (hV : ∀ g, g < f → VOK S g) (hVB : VBOK S) : ROK S f := by
  intro rb a0 deep t w h ha0 hd hL hrb7 ht ho
  obtain ⟨i0, hi, hy0, hy1, hy2⟩ := info_parts datumInfo
  generalize hq : rowM S.data.toList f deep a0 t.data.toList .nil = res at *
  have hrb : rb < w.heap.size := h.lt
  have HO := Lib.hid ho
  have HVOK := Lib.hid hV
  have HVB := Lib.hid hVB
  have HLB0 := Lib.hid hL
  have H0 := Lib.hid (show ∃ g, RRel rb S deep t.data.toList w res g (.slice none 0 0) w ∧ g ≤ f from ⟨f, ⟨none, 0, 0, [], rfl, Row.nil _ _ _, Kept.refl _ _, by omega, .inl ⟨a0, .nil, rfl, by omega, ha0, rfl, h, hq⟩⟩, Nat.le_refl _⟩)
  clear h ho hV hVB hL hq ha0
  go_enter Tryd.func70, Tryd.ntmps70
  go_wp2_with fail
  go_loopw [5] (fun t5 wr => ∃ g, RRel rb S deep t.data.toList w res g t5 wr ∧ g ≤ f) (fun t5 wr => least (fun g => RRel rb S deep t.data.toList w res g t5 wr))
  case atStart => exact H0.out
  case round =>
    obtain ⟨g9, hg9, hle9, hgf⟩ : ∃ g, RRel rb S deep t.data.toList w res g u5 wr ∧ g ≤ least (fun g => RRel rb S deep t.data.toList w res g u5 wr) ∧ g ≤ f := by
      obtain ⟨g, hg, hgf⟩ := hrel
      exact ⟨least _, least_spec (R := fun g => RRel rb S deep t.data.toList w res g u5 wr) ⟨g, hg⟩, Nat.le_refl _, Nat.le_trans (least_le hg) hgf⟩
    have HLE := Lib.hid hle9
    obtain ⟨l, n, cap, cs, rfl, hrow, hK, hn0, hmode⟩ := hg9
    clear hrel hle9 H0
    have HROW := Lib.hid hrow
    have HK := Lib.hid hK
    have HLB := Lib.hid (HLB0.out.keep1 hK hrb7)
    clear hrow
    rcases hmode with ⟨a, acc, hacc, hna, ha, hAt, hR, hq⟩ | ⟨a, ha, hR, hres⟩
    · have c3 := hR.cell 3 rfl
      have HR := Lib.hid hR
      have HAT := Lib.hid hAt
      have HACC := Lib.hid hacc
      clear hAt hR hK
      cases g9 with
      | zero => exact absurd hq.symm HO.out
      | succ f9 =>
      rw [rowM] at hq
      cases hxe : hasM S.data.toList a t.data.toList
      · rw [if_neg (by rw [hxe]; simp)] at hq
        have HHF := Lib.hid (hasF (t := t) HR.out ha hxe)
        by_cases hn : n = 0
        · rw [if_pos (by rw [hacc]; exact hn)] at hq
          have hbig : 2 * (n + 1) ≤ 1000000000004 := by omega
          have hgt : ¬ (0 : Int) < (n : Int) := by omega
          have HN := Lib.hid hn
          clear hacc hxe hn
          cases hvm : valueM S.data.toList f9 deep (a) with
          | out => rw [hvm] at hq; exact absurd hq.symm HO.out
          | ok d b9 =>
            rw [hvm] at hq
            have HQN := Lib.hid hq
            have HGO := Lib.hid (show 2 * (n + 1) ≤ b9 + 2 by have := valueM_le hvm; omega)
            have HV9 := Lib.hid (show ∀ wx, Rdr wx rb S (a) deep false → (a) ≤ S.size → Lb wx → Calls Tryd.prog 36 #[.pointer (some ⟨rb, 0, none⟩)] wx (VP rb S deep wx (.ok d b9)) from fun wx h1 h2 h3 => by have := HVOK.out f9 (by omega) rb (a) deep wx h1 h2 hd h3 hrb7 (by rw [hvm]; simp); rw [hvm] at this; exact this)
            clear hq hvm
            go_wp2_with (first
              | (go_at_call 63; (with_reducible refine HHF.out.mono ?_); rintro e wc ⟨rfl, m, hwc⟩
                 have HRC := Lib.hid (show Rdr wc rb S a deep false by rw [hwc]; exact Rdr.drewN HR.out m)
                 have HKC := Lib.hid (show Kept (N1 rb) wr wc by rw [hwc]; exact (Kept.refl _ _).calm (below_drewN _ _ _))
                 have HVC := Lib.hid (HV9.out wc HRC.out ha (HLB.out.keep1 HKC.out hrb7))
                 clear hwc)
              | (go_at_call 36; (with_reducible refine HVC.out.mono ?_); rintro e wv ⟨lv, nv, cv, rfl, hF, ⟨hRv, hbv⟩, hKv⟩
                 have HF := Lib.hid hF; have HRV := Lib.hid hRv; have HKV := Lib.hid hKv; have HBV := Lib.hid hbv
                 have HR9 := fun o => Lib.hid (((HROW.out.keep1 HKC.out hrb).keep1 hKv hrb).alloc o)
                 have HL9 := Lib.hid (show w.heap.size ≤ wv.heap.size from Nat.le_trans HK.out.size (Nat.le_trans HKC.out.size hKv.size))
                 have HS9 := Lib.hid (Src.oneRow (P := Tryd.prog) (w := wv) (tx := 23) Tryd.underlying23 (V5 d.k d.i d.b ⟨d.t.toArray⟩ lv nv cv) _ 25 (g := wv.heap.size) rfl rfl rfl (V5_one _ _ _ _ _ _ _)))
              | (at_builtin; refine wpList_append_row rfl _ _ 23 23 rfl 25 i0 (.agg #[.int .i64 0, .int .i64 0, .int .u64 0, .string ⟨#[]⟩, .slice none 0 0]) 5 64 Tryd.underlying23 hi hy0 hy1 hy2 rfl rfl (HR9 _).out 1 _ HS9.out (by unfold maxLen; omega) (by omega) (by have := HL9.out; simp; omega) ?_; intro a4 c4 w4 hrow hgr hbk4; have HR4 := Lib.hid hrow; have HG4 := Lib.hid hgr; have HB4 := Lib.hid hbk4; clear hrow hgr hbk4))
            have hfin : RRel rb S deep t.data.toList w res f9 (.slice a4 (n + 1) c4) w4 := r_next HROW.out HK.out HACC.out HAT.out hrb HKC.out HF.out HRV.out HBV.out HKV.out (by have := HGO.out; omega) hbig HR4.out HG4.out HB4.out HQN.out
            exact ⟨⟨f9, hfin, by omega⟩, Nat.lt_of_le_of_lt (least_le hfin) (by have := HLE.out; omega)⟩
          | bad =>
            rw [hvm] at hq
            have hres : res = .bad := hq.symm
            have HV9 := Lib.hid (show ∀ wx, Rdr wx rb S (a) deep false → (a) ≤ S.size → Lb wx → Calls Tryd.prog 36 #[.pointer (some ⟨rb, 0, none⟩)] wx (VP rb S deep wx .bad) from fun wx h1 h2 h3 => by have := HVOK.out f9 (by omega) rb (a) deep wx h1 h2 hd h3 hrb7 (by rw [hvm]; simp); rw [hvm] at this; exact this)
            clear hq hvm
            go_wp2_with (first
              | (go_at_call 63; (with_reducible refine HHF.out.mono ?_); rintro e wc ⟨rfl, m, hwc⟩
                 have HRC := Lib.hid (show Rdr wc rb S a deep false by rw [hwc]; exact Rdr.drewN HR.out m)
                 have HKC := Lib.hid (show Kept (N1 rb) wr wc by rw [hwc]; exact (Kept.refl _ _).calm (below_drewN _ _ _))
                 have HVC := Lib.hid (HV9.out wc HRC.out ha (HLB.out.keep1 HKC.out hrb7))
                 clear hwc)
              | (go_at_call 36; (with_reducible refine HVC.out.mono ?_); rintro e wv ⟨k5, i5, b5, t5, lv, nv, cv, rfl, ⟨b9, hRv, hbv⟩, hKv⟩
                 have HRV := Lib.hid hRv; have HKV := Lib.hid hKv; have HBV := Lib.hid hbv
                 have HR9 := fun o => Lib.hid (((HROW.out.keep1 HKC.out hrb).keep1 hKv hrb).alloc o)
                 have HL9 := Lib.hid (show w.heap.size ≤ wv.heap.size from Nat.le_trans HK.out.size (Nat.le_trans HKC.out.size hKv.size))
                 have HS9 := Lib.hid (Src.oneRow (P := Tryd.prog) (w := wv) (tx := 23) Tryd.underlying23 (V5 k5 i5 b5 t5 lv nv cv) _ 25 (g := wv.heap.size) rfl rfl rfl (V5_one _ _ _ _ _ _ _)))
              | (at_builtin; refine wpList_append_row rfl _ _ 23 23 rfl 25 i0 (.agg #[.int .i64 0, .int .i64 0, .int .u64 0, .string ⟨#[]⟩, .slice none 0 0]) 5 64 Tryd.underlying23 hi hy0 hy1 hy2 rfl rfl (HR9 _).out 1 _ HS9.out (by unfold maxLen; omega) (by omega) (by have := HL9.out; simp; omega) ?_; intro a4 c4 w4 hrow hgr hbk4; have HR4 := Lib.hid hrow; have HG4 := Lib.hid hgr; have HB4 := Lib.hid hbk4; clear hrow hgr hbk4))
            have hfin : RRel rb S deep t.data.toList w res 0 (.slice a4 (n + 1) c4) w4 := r_bad HROW.out HK.out hrb (HKC.out.trans HKV.out) HRV.out HBV.out hbig HR4.out HG4.out hres
            exact ⟨⟨0, hfin, by omega⟩, Nat.lt_of_le_of_lt (least_le hfin) (by have := HLE.out; omega)⟩
        · rw [if_neg (by rw [hacc]; exact hn)] at hq
          have hgt : (0 : Int) < (n : Int) := by omega
          clear hacc hxe
          cases hx : hasM S.data.toList a [44, 32]
          · rw [hx] at hq
            have hres : res = .bad := hq.symm
            have hbig : 2 * (n + 1) ≤ 1000000000004 := by omega
            go_wp2_with (first
              | (go_at_call 63; (with_reducible refine HHF.out.mono ?_); rintro e wb ⟨rfl, m, hwb⟩
                 have HRB := Lib.hid (show Rdr wb rb S a deep false by rw [hwb]; exact Rdr.drewN HR.out m)
                 have HKB := Lib.hid (show Kept (N1 rb) wr wb by rw [hwb]; exact (Kept.refl _ _).calm (below_drewN _ _ _))
                 have HWC := Lib.hid (wantF (t := ⟨#[44, 32]⟩) HRB.out ha (.inr hx))
                 clear hwb)
              | (go_at_call 69; (with_reducible refine HWC.out.mono ?_); rintro e wc ⟨rfl, hRC, hKC⟩
                 have HRC := Lib.hid hRC
                 have HKC := Lib.hid (HKB.out.trans hKC)
                 have HVC := Lib.hid (HVB.out rb a deep wc HRC.out ha)
                 clear hRC hKC)
              | (go_at_call 36; (with_reducible refine HVC.out.mono ?_); rintro e wv ⟨rfl, hRv, hKv⟩
                 have HRV := Lib.hid hRv; have HKV := Lib.hid hKv
                 have HR9 := fun o => Lib.hid (((HROW.out.keep1 HKC.out hrb).keep1 hKv hrb).alloc o)
                 have HL9 := Lib.hid (show w.heap.size ≤ wv.heap.size from Nat.le_trans HK.out.size (Nat.le_trans HKC.out.size hKv.size))
                 have HS9 := Lib.hid (Src.oneRow (P := Tryd.prog) (w := wv) (tx := 23) Tryd.underlying23 (V5 0 0 0 ⟨#[]⟩ none 0 0) _ 25 (g := wv.heap.size) rfl rfl rfl (V5_one _ _ _ _ _ _ _)))
              | (at_builtin; refine wpList_append_row rfl _ _ 23 23 rfl 25 i0 (.agg #[.int .i64 0, .int .i64 0, .int .u64 0, .string ⟨#[]⟩, .slice none 0 0]) 5 64 Tryd.underlying23 hi hy0 hy1 hy2 rfl rfl (HR9 _).out 1 _ HS9.out (by unfold maxLen; omega) (by omega) (by have := HL9.out; simp; omega) ?_; intro a4 c4 w4 hrow hgr hbk4; have HR4 := Lib.hid hrow; have HG4 := Lib.hid hgr; have HB4 := Lib.hid hbk4; clear hrow hgr hbk4))
            have hfin : RRel rb S deep t.data.toList w res 0 (.slice a4 (n + 1) c4) w4 := r_bad HROW.out HK.out hrb (HKC.out.trans HKV.out) HRV.out ha hbig HR4.out HG4.out hres
            exact ⟨⟨0, hfin, by omega⟩, Nat.lt_of_le_of_lt (least_le hfin) (by have := HLE.out; omega)⟩
          · have ha2 : a + 2 ≤ S.size := by
              rw [Lib.size_eq S]
              rcases hasM_len hx with h | h
              · exact h
              · cases h
            rw [hx, if_pos rfl] at hq
            have hbig : 2 * (n + 1) ≤ 1000000000004 := by omega
            cases hvm : valueM S.data.toList f9 deep (a + 2) with
            | out => rw [hvm] at hq; exact absurd hq.symm HO.out
            | ok d b9 =>
              rw [hvm] at hq
              have HQN := Lib.hid hq
              have HGO := Lib.hid (show 2 * (n + 1) ≤ b9 + 2 by have := valueM_le hvm; omega)
              have HV9 := Lib.hid (show ∀ wx, Rdr wx rb S (a + 2) deep false → (a + 2) ≤ S.size → Lb wx → Calls Tryd.prog 36 #[.pointer (some ⟨rb, 0, none⟩)] wx (VP rb S deep wx (.ok d b9)) from fun wx h1 h2 h3 => by have := HVOK.out f9 (by omega) rb (a + 2) deep wx h1 h2 hd h3 hrb7 (by rw [hvm]; simp); rw [hvm] at this; exact this)
              clear hq hvm
              go_wp2_with (first
                | (go_at_call 63; (with_reducible refine HHF.out.mono ?_); rintro e wb ⟨rfl, m, hwb⟩
                   have HRB := Lib.hid (show Rdr wb rb S a deep false by rw [hwb]; exact Rdr.drewN HR.out m)
                   have HKB := Lib.hid (show Kept (N1 rb) wr wb by rw [hwb]; exact (Kept.refl _ _).calm (below_drewN _ _ _))
                   have HWC := Lib.hid (wantT (t := ⟨#[44, 32]⟩) HRB.out ha hS (by decide) hx)
                   clear hwb)
                | (go_at_call 69; (with_reducible refine HWC.out.mono ?_); rintro e wc ⟨rfl, hRC, hKC⟩
                   have HRC := Lib.hid hRC
                   have HKC := Lib.hid (HKB.out.trans hKC)
                   have HVC := Lib.hid (HV9.out wc HRC.out ha2 (HLB.out.keep1 HKC.out hrb7))
                   clear hRC hKC)
                | (go_at_call 36; (with_reducible refine HVC.out.mono ?_); rintro e wv ⟨lv, nv, cv, rfl, hF, ⟨hRv, hbv⟩, hKv⟩
                   have HF := Lib.hid hF; have HRV := Lib.hid hRv; have HKV := Lib.hid hKv; have HBV := Lib.hid hbv
                   have HR9 := fun o => Lib.hid (((HROW.out.keep1 HKC.out hrb).keep1 hKv hrb).alloc o)
                   have HL9 := Lib.hid (show w.heap.size ≤ wv.heap.size from Nat.le_trans HK.out.size (Nat.le_trans HKC.out.size hKv.size))
                   have HS9 := Lib.hid (Src.oneRow (P := Tryd.prog) (w := wv) (tx := 23) Tryd.underlying23 (V5 d.k d.i d.b ⟨d.t.toArray⟩ lv nv cv) _ 25 (g := wv.heap.size) rfl rfl rfl (V5_one _ _ _ _ _ _ _)))
                | (at_builtin; refine wpList_append_row rfl _ _ 23 23 rfl 25 i0 (.agg #[.int .i64 0, .int .i64 0, .int .u64 0, .string ⟨#[]⟩, .slice none 0 0]) 5 64 Tryd.underlying23 hi hy0 hy1 hy2 rfl rfl (HR9 _).out 1 _ HS9.out (by unfold maxLen; omega) (by omega) (by have := HL9.out; simp; omega) ?_; intro a4 c4 w4 hrow hgr hbk4; have HR4 := Lib.hid hrow; have HG4 := Lib.hid hgr; have HB4 := Lib.hid hbk4; clear hrow hgr hbk4))
              have hfin : RRel rb S deep t.data.toList w res f9 (.slice a4 (n + 1) c4) w4 := r_next HROW.out HK.out HACC.out HAT.out hrb HKC.out HF.out HRV.out HBV.out HKV.out (by have := HGO.out; omega) hbig HR4.out HG4.out HB4.out HQN.out
              exact ⟨⟨f9, hfin, by omega⟩, Nat.lt_of_le_of_lt (least_le hfin) (by have := HLE.out; omega)⟩
            | bad =>
              rw [hvm] at hq
              have hres : res = .bad := hq.symm
              have HV9 := Lib.hid (show ∀ wx, Rdr wx rb S (a + 2) deep false → (a + 2) ≤ S.size → Lb wx → Calls Tryd.prog 36 #[.pointer (some ⟨rb, 0, none⟩)] wx (VP rb S deep wx .bad) from fun wx h1 h2 h3 => by have := HVOK.out f9 (by omega) rb (a + 2) deep wx h1 h2 hd h3 hrb7 (by rw [hvm]; simp); rw [hvm] at this; exact this)
              clear hq hvm
              go_wp2_with (first
                | (go_at_call 63; (with_reducible refine HHF.out.mono ?_); rintro e wb ⟨rfl, m, hwb⟩
                   have HRB := Lib.hid (show Rdr wb rb S a deep false by rw [hwb]; exact Rdr.drewN HR.out m)
                   have HKB := Lib.hid (show Kept (N1 rb) wr wb by rw [hwb]; exact (Kept.refl _ _).calm (below_drewN _ _ _))
                   have HWC := Lib.hid (wantT (t := ⟨#[44, 32]⟩) HRB.out ha hS (by decide) hx)
                   clear hwb)
                | (go_at_call 69; (with_reducible refine HWC.out.mono ?_); rintro e wc ⟨rfl, hRC, hKC⟩
                   have HRC := Lib.hid hRC
                   have HKC := Lib.hid (HKB.out.trans hKC)
                   have HVC := Lib.hid (HV9.out wc HRC.out ha2 (HLB.out.keep1 HKC.out hrb7))
                   clear hRC hKC)
                | (go_at_call 36; (with_reducible refine HVC.out.mono ?_); rintro e wv ⟨k5, i5, b5, t5, lv, nv, cv, rfl, ⟨b9, hRv, hbv⟩, hKv⟩
                   have HRV := Lib.hid hRv; have HKV := Lib.hid hKv; have HBV := Lib.hid hbv
                   have HR9 := fun o => Lib.hid (((HROW.out.keep1 HKC.out hrb).keep1 hKv hrb).alloc o)
                   have HL9 := Lib.hid (show w.heap.size ≤ wv.heap.size from Nat.le_trans HK.out.size (Nat.le_trans HKC.out.size hKv.size))
                   have HS9 := Lib.hid (Src.oneRow (P := Tryd.prog) (w := wv) (tx := 23) Tryd.underlying23 (V5 k5 i5 b5 t5 lv nv cv) _ 25 (g := wv.heap.size) rfl rfl rfl (V5_one _ _ _ _ _ _ _)))
                | (at_builtin; refine wpList_append_row rfl _ _ 23 23 rfl 25 i0 (.agg #[.int .i64 0, .int .i64 0, .int .u64 0, .string ⟨#[]⟩, .slice none 0 0]) 5 64 Tryd.underlying23 hi hy0 hy1 hy2 rfl rfl (HR9 _).out 1 _ HS9.out (by unfold maxLen; omega) (by omega) (by have := HL9.out; simp; omega) ?_; intro a4 c4 w4 hrow hgr hbk4; have HR4 := Lib.hid hrow; have HG4 := Lib.hid hgr; have HB4 := Lib.hid hbk4; clear hrow hgr hbk4))
              have hfin : RRel rb S deep t.data.toList w res 0 (.slice a4 (n + 1) c4) w4 := r_bad HROW.out HK.out hrb (HKC.out.trans HKV.out) HRV.out HBV.out hbig HR4.out HG4.out hres
              exact ⟨⟨0, hfin, by omega⟩, Nat.lt_of_le_of_lt (least_le hfin) (by have := HLE.out; omega)⟩
      · rw [if_pos hxe] at hq
        have HQ := Lib.hid hq
        have HHT := Lib.hid (hasT (t := t) HR.out ha hS ht hxe)
        have hat : a + t.size ≤ S.size := by
          rw [Lib.size_eq S, Lib.size_eq t]
          rcases hasM_len hxe with h | h
          · exact h
          · rw [h]; rw [Lib.size_eq S] at ha; simpa using ha
        clear hq hacc hxe
        go_wp2_with (go_at_call 63; (with_reducible refine HHT.out.mono ?_); rintro e wc ⟨rfl, hRC, hKC⟩; have HRC := Lib.hid hRC; have HKC := Lib.hid hKC; clear hRC hKC)
        go_ret
        rw [← HQ.out]
        refine ⟨l, n, cap, rfl, ⟨cs, ⟨(HROW.out.keep1 HKC.out hrb).rd, fun x _ hx => (HROW.out.lt x hx).1⟩, ?_⟩, ⟨by rw [← Lib.size_eq]; exact HRC.out, by rw [← Lib.size_eq]; exact hat⟩, HK.out.trans HKC.out⟩
        exact At.same acc HAT.out (fun x hx hlt => HKC.out.block x hlt (fun e => by unfold N1 at e; omega)) (fun x hx _ => hx.1)
    · have c3 := hR.cell 3 rfl
      have HR := Lib.hid hR
      clear hR hK
      go_wp2_with fail
      go_ret
      subst hres
      exact ⟨l, n, cap, rfl, ⟨a, HR.out, ha⟩, HK.out⟩
end Go.Proofs.YtofpdhkdnbnobaaDoor
